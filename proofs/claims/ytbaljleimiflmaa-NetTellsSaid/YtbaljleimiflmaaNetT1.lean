/-
  For NetTells: what fair, alike, Without answer; the state that the law keeps beside the net: the document's list, the act in hand. Conditions: the state.
-/
import Derived.Test.YtbaljleimiflmaaNetOrd
import Derived.Test.YtbaljleimiflmaaPNetTellsx2
namespace Go.Proofs.Ytbaljleimiflmaa.Net
open Go.RowKit Go.Proofs.Ytbaljleimiflmaa.PNetTells Go.Proofs.YtbaljleimiflmaaW.PrintWords Go.Proofs.YtbaljleimiflmaaW.PrintLast

theorem fair_l (l : List S68) (hn : l.length ≤ 100) (d : Nat) : ∀ (k i : Nat), i + d = l.length → 2 * d + 2 ≤ k → ∃ b, billetlaw25_fair.l0 k l (i : Nat) = some b := by
  induction d with
  | zero =>
    intro k i hi hk
    obtain ⟨k, rfl⟩ : ∃ m, k = m + 2 := ⟨k - 2, by omega⟩
    simp only [billetlaw25_fair.l0]
    rw [if_neg (by omega)]
    simp only [billetlaw25_fair.j1]
    exact ⟨_, by rw [if_neg (by simp)]⟩
  | succ d ih =>
    intro k i hi hk
    obtain ⟨k, rfl⟩ : ∃ m, k = m + 2 := ⟨k - 2, by omega⟩
    simp only [billetlaw25_fair.l0]
    rw [if_pos (by omega)]
    simp only [billetlaw25_fair.j1]
    rw [if_pos (by simp; omega), if_pos (by omega), if_pos (by omega)]
    by_cases h : (((rd_T68 l (i : Int)).f2).size : Int) > 100
    · rw [if_pos h]; exact ⟨_, rfl⟩
    · rw [if_neg h]
      have e1 : wrap64 ((i : Int) + 1) = ((i + 1 : Nat) : Int) := by unfold wrap64; omega
      rw [e1]
      exact ih k (i + 1) (by omega) (by omega)

theorem fair_f (l : List S68) : ∃ k b, billetlaw25_fair.f k l = some b ∧ (b = true → l.length ≤ 100) := by
  by_cases h : l.length ≤ 100
  · obtain ⟨b, hb⟩ := fair_l l h l.length (2 * l.length + 2) 0 (by omega) (by omega)
    exact ⟨_, b, hb, fun _ => h⟩
  · refine ⟨2, false, ?_, fun h => by cases h⟩
    unfold billetlaw25_fair.f
    simp only [billetlaw25_fair.l0]
    rw [if_pos (by omega)]
    simp only [billetlaw25_fair.j1]
    rw [if_neg (by simp; omega)]
    simp; omega

def cv (x : S72) : S71 := ⟨x.f0, x.f1⟩
theorem rd_cv (l : List S72) (i : Int) : rd_T71 (l.map cv) i = cv (rd_T72 l i) := by
  unfold rd_T71 rd_T72
  simp only [List.getD_eq_getElem?_getD, List.getElem?_map]
  cases l[i.toNat]? <;> rfl

theorem alike_l (l : List S72) (hn : l.length ≤ 1000) (d : Nat) : ∀ (k i : Nat), i + d = l.length → d + 1 ≤ k → billetlaw25_alike.l0 k l (l.map cv) (i : Nat) = some true := by
  induction d with
  | zero =>
    intro k i hi hk
    obtain ⟨k, rfl⟩ : ∃ m, k = m + 1 := ⟨k - 1, by omega⟩
    simp only [billetlaw25_alike.l0]
    rw [if_neg (by omega)]
  | succ d ih =>
    intro k i hi hk
    obtain ⟨k, rfl⟩ : ∃ m, k = m + 1 := ⟨k - 1, by omega⟩
    simp only [billetlaw25_alike.l0]
    have e1 : wrap64 ((i : Int) + 1) = ((i + 1 : Nat) : Int) := by unfold wrap64; omega
    rw [if_pos (by omega), if_pos (by omega), if_pos (by rw [List.length_map]; omega), rd_cv, if_neg (by simp [cv]), e1]
    exact ih k (i + 1) (by omega) (by omega)
theorem alike_f (l : List S72) (hn : l.length ≤ 1000) : billetlaw25_alike.f (l.length + 1) l (l.map cv) = some true := by
  unfold billetlaw25_alike.f
  rw [if_pos (by rw [List.length_map])]
  exact alike_l l hn l.length _ 0 (by omega) (by omega)

theorem without_f (l : List S71) (i : Nat) (hi : i < l.length) (hn : l.length ≤ 1000) : billetref27_Without.f l (i : Int) = some (l.eraseIdx i) := by
  have e1 : wrap64 ((i : Int) + 1) = ((i + 1 : Nat) : Int) := by unfold wrap64; omega
  have h1 : (([] : List S71).length + (l.take (i : Int).toNat).length) < 5864062014805 := by rw [List.length_nil, List.length_take]; omega
  have h2 : ((([] : List S71) ++ l.take (i : Int).toNat).length + (l.drop ((i + 1 : Nat) : Int).toNat).length) < 5864062014805 := by rw [List.length_append, List.length_nil, List.length_take, List.length_drop]; omega
  have h3 : (i : Int) ≤ (l.length : Int) := by omega
  have h4 : ((i + 1 : Nat) : Int) ≤ (l.length : Int) := by omega
  unfold billetref27_Without.f
  rw [Option.bind_some, if_pos (Int.natCast_nonneg _), if_pos h3, Option.bind_some, if_pos h1, Option.bind_some, e1, if_pos (Int.natCast_nonneg _), if_pos h4, Option.bind_some, if_pos h2, List.nil_append, Int.toNat_natCast, Int.toNat_natCast, List.eraseIdx_eq_take_drop_succ]

theorem k71_KM {w W : World} {base : Nat} {ok : Nat → Prop} (x : S71) (cs : List Value) (h : k71.K w x cs) : k71.M W base ok x cs := by
  obtain rfl := k71_open h
  exact k71_mkM W base ok x
theorem k71_MK {w W : World} {base : Nat} {ok : Nat → Prop} (x : S71) (cs : List Value) (h : k71.M w base ok x cs) : k71.K W x cs := by
  obtain rfl := k71_openM h
  exact k71_mk W x
theorem R71_own {w : World} {B : Nat} {v : Value} {xs : List S71} (h : Kd.R k71 71 w B (fun _ => True) v xs) : ∃ inner, w.ownsRow B 71 2 v xs.length inner := by
  obtain ⟨_, inner, ho, _⟩ := h
  exact ⟨inner, ho⟩
theorem R71_move {w w1 : World} {B : Nat} {v : Value} {xs : List S71} (h : Kd.R k71 71 w B (fun _ => True) v xs) (hm : ∀ k, v.ownBlock = some k → w1.heap[k]? = w.heap[k]?) : Kd.R k71 71 w1 B (fun _ => True) v xs := by
  obtain ⟨h0, inner, ho, hr⟩ := h
  exact ⟨h0, inner, own_move ho hm, hr.imp_ (fun p q hq => k71_KM (w := w) p q (k71_MK p q hq))⟩
theorem R71_shape {w : World} {B : Nat} {ok : Nat → Prop} {v : Value} {xs : List S71} (h : Kd.R k71 71 w B ok v xs) : ∃ A c, v = .slice A xs.length c := by
  obtain ⟨_, inner, ⟨_, h2⟩, _⟩ := h
  rcases h2 with ⟨rfl, hn⟩ | ⟨g, cap, cur, rfl, _⟩
  · exact ⟨none, 0, by rw [hn]⟩
  · exact ⟨_, _, rfl⟩
theorem item71_at {w : World} {B : Nat} {A : Option Addr} {c : Nat} {xs : List S71} (h : Kd.R k71 71 w B (fun _ => True) (.slice A xs.length c) xs) (i : Nat) (hi : i < xs.length) :
    ∃ g, A = some ⟨g, 0, none⟩ ∧ B ≤ g ∧ g < w.heap.size ∧ xs.length ≤ c ∧ c ≤ 9223372036854775807 ∧ w.cell? ⟨g, i * 2, none⟩ = some (.int .i64 (xs.getD i z71).f0) ∧ w.cell? ⟨g, i * 2 + 1, none⟩ = some (.string (xs.getD i z71).f1) ∧
      w.frozen? ⟨g, i * 2, none⟩ = false ∧ w.frozen? ⟨g, i * 2 + 1, none⟩ = false := by
  have hC := (Kd.R_reads' h).2.2
  obtain ⟨_, inner, ⟨_, h2⟩, _⟩ := h
  rcases h2 with ⟨h3, h4⟩ | ⟨g, cap, cur, h3, hg, hh, hnc, hcm, _, _⟩
  · omega
  · injection h3 with e1 e2 e3
    subst e1
    subst e3
    obtain ⟨ad, e, h5, h6⟩ := at_T71 hC i (by omega) (by omega)
    injection e with e
    subst e
    have ea : (⟨g, 0, none⟩ : Addr).add ((i : Int).toNat * 2) = ⟨g, i * 2, none⟩ := by
      rw [Int.toNat_natCast]
      unfold Addr.add
      split
      · rename_i h; rw [h]
      · simp
    rw [ea] at h5 h6
    refine ⟨g, rfl, hg, blk_lt hh, hnc, by simpa [maxLen] using hcm, ?_, ?_, blk_frozen hh _, blk_frozen hh _⟩
    · simpa [rd_T71] using h5
    · simpa [rd_T71] using h6
theorem getD_cv (l : List S72) (i : Nat) : (l.map cv).getD i z71 = cv (l.getD i z72) := by
  simp only [List.getD_eq_getElem?_getD, List.getElem?_map]
  cases l[i]? <;> rfl

/-- What is kept from act to act: the net's items, the document's. -/
def LSt (w w1 : World) (q : Value) (xs : List S72) : Prop := NSt w w.heap.size w.heap.size (fun j => some j = q.ownBlock) xs w1 ∧ Kd.R k71 71 w1 w.heap.size (fun _ => True) q (xs.map cv)
/-- .. and the act in hand, in a box at X; the net's and the document's items each for itself. -/
def TSt (w w1 : World) (X : Nat) (k N : Int) (t : ByteArray) (q : Value) (xs ys : List S72) : Prop :=
  NSt w w.heap.size w.heap.size (fun j => some j = q.ownBlock ∨ j = X) xs w1 ∧ Kd.R k71 71 w1 w.heap.size (fun _ => True) q (ys.map cv) ∧ w1.heap[X]? = some (.cells #[.int .i64 k, .int .i64 N, .string t] 68 (0, 0)) ∧ w.heap.size ≤ X

section
variable {w w1 w2 : World} {X : Nat} {k N : Int} {t : ByteArray} {q : Value} {xs ys : List S72}
theorem LSt.new (w : World) : LSt w (w.alloc (.cells #[.slice none 0 0] 65)) (.slice none 0 0) [] := ⟨(NSt.new w).fewer (fun k hk => by simp [Value.ownBlock] at hk), Kd.R_nil _ _ _ _ _⟩
theorem LSt.act (h : LSt w w1 q xs) (k N : Int) (t : ByteArray) : TSt w (w1.alloc (.cells #[.int .i64 k, .int .i64 N, .string t] 68)) w1.heap.size k N t q xs xs := by
  obtain ⟨inner, ho⟩ := R71_own h.2
  exact ⟨h.1.more _, R71_move h.2 (fun k hk => Below.heap_alloc _ _ _ (own_lt ho k hk)), heap_alloc_new w1 _, h.1.size.1⟩
theorem TSt.done (h : TSt w w1 X k N t q xs xs) : LSt w w1 q xs := ⟨h.1.fewer (fun _ hk => .inl hk), h.2.1⟩
theorem TSt.step (h : TSt w w1 X k N t q xs ys) {v : Value} {xs' : List S72} {e : Ending} (hn : NStTo w w.heap.size w.heap.size (fun j => some j = q.ownBlock ∨ j = X) v xs' w1 e w2) : e = .returned v ∧ TSt w w2 X k N t q xs' ys :=
  ⟨hn.1, hn.2.1, R71_move h.2.1 (fun j hj => hn.2.2 j (.inl hj.symm)), (hn.2.2 X (.inr rfl)).trans h.2.2.1, h.2.2.2⟩
theorem TSt.below (h : TSt w w1 X k N t q xs ys) (hb : Below w1.heap.size w1 w2) : TSt w w2 X k N t q xs ys := by
  obtain ⟨inner, ho⟩ := R71_own h.2.1
  exact ⟨h.1.below hb, R71_move h.2.1 (fun j hj => hb.block j (own_lt ho j hj)), (hb.block X (blk_lt h.2.2.1)).trans h.2.2.1, h.2.2.2⟩
theorem TSt.drewN (h : TSt w w1 X k N t q xs ys) (m : Nat) : TSt w (w1.drewN m) X k N t q xs ys := h.below (pw_below_drewN (Below.refl _ _) m)
theorem TSt.fresh (h : TSt w w1 X k N t q xs ys) (hb : Below w1.heap.size w1 w2) {q' : Value} {ys' : List S72} (hr : Kd.R k71 71 w2 w1.heap.size (fun _ => True) q' (ys'.map cv)) : TSt w w2 X k N t q' xs ys' := by
  have h2 := h.below hb
  obtain ⟨inner, ho⟩ := R71_own hr
  have hsz := h.1.size
  have hX := blk_lt h.2.2.1
  obtain ⟨A, c, hn, hold, h3, hS⟩ := h2.1
  obtain ⟨A1, c1, hn1, _, _, _⟩ := h.1
  refine ⟨⟨A, c, hn, hold, h3, fun j hj => ?_⟩, Kd.R_lower hr hsz.1, h2.2.2.1, h.2.2.2⟩
  rcases hj with hj | hj
  · have h4 := own_lt ho j hj.symm
    have h5 := own_base ho j hj.symm
    refine ⟨h4, by omega, ?_⟩
    obtain ⟨cs, hcs⟩ := own_typed ho j hj.symm
    exact R72_ne hn.2 hcs (by decide)
  · exact hS j (.inr hj)
theorem TSt.cells (h : TSt w w1 X k N t q xs ys) : w1.cell? ⟨X, 0, none⟩ = some (.int .i64 k) ∧ w1.cell? ⟨X, 1, none⟩ = some (.int .i64 N) ∧ w1.cell? ⟨X, 2, none⟩ = some (.string t) ∧ X < w1.heap.size :=
  ⟨by simpa using blk_cell h.2.2.1 0, by simpa using blk_cell h.2.2.1 1, by simpa using blk_cell h.2.2.1 2, blk_lt h.2.2.1⟩
end

/-- An act of a list that came in, in a later world. -/
theorem act_at {w w1 : World} {A : Option Addr} {l : List S68} (hl : Kd.C k68 w A l.length l) (hb : Below w.heap.size w w1) (k : Nat) (hk : k < l.length) :
    ∃ ad, A = some ad ∧ w1.cell? (ad.add (k * 3)) = some (.int .i64 (l.getD k z68).f0) ∧ w1.cell? ⟨(ad.add (k * 3)).block, (ad.add (k * 3)).off + 1, none⟩ = some (.int .i64 (l.getD k z68).f1) ∧ w1.cell? ⟨(ad.add (k * 3)).block, (ad.add (k * 3)).off + 2, none⟩ = some (.string (l.getD k z68).f2) := by
  obtain ⟨ad, e, h0, h1, h2⟩ := at_T68 hl (k : Int) (by omega) (by omega)
  rw [Int.toNat_natCast] at h0 h1 h2
  exact ⟨ad, e, (hb.cell (cell_lt h0)).trans h0, (hb.cell (cell_lt h1)).trans h1, (hb.cell (cell_lt h2)).trans h2⟩

end Go.Proofs.Ytbaljleimiflmaa.Net
