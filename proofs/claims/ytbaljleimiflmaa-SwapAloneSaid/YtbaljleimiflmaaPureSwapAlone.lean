/-
  The plain law of SwapAlone: of any choices, any texts: what is said by whom nobody may hear changes nothing: only a partner's text is told, and to him alone. No condition but the sizes that the statement bears.
-/
import Derived.Test.YtbaljleimiflmaaQSwapAlonex3
import Derived.Test.YtbaljleimiflmaaPl
namespace Go.Proofs.Ytbaljleimiflmaa.Pure
open Go.RowKit Go.Proofs.Ytbaljleimiflmaa.PSwapAlone Go.Proofs.YtbaljleimiflmaaW.PrintWords Go.Proofs.YtbaljleimiflmaaW.PrintLast
namespace SwapAloneL

theorem partner_f (k : Nat) (l : List Int) (u : Int) (hk : 1 ≤ k) : swap_Partner.f k l u = some (Pl.pt l u) := by
  obtain ⟨k, rfl⟩ : ∃ m, k = m + 1 := ⟨k - 1, by omega⟩
  have hp : Pl.pt l u = if u < 0 then (0, false) else if u ≥ (l.length : Int) then (0, false) else if rd l u < 0 then (0, false) else if rd l u ≥ (l.length : Int) then (0, false) else
    if rd l u = u then (0, false) else if rd l (rd l u) = u then (rd l u, true) else (0, false) := rfl
  rw [hp]
  unfold swap_Partner.f
  by_cases h1 : u < 0
  · rw [if_pos h1, if_pos h1]; simp only [swap_Partner.j0]; rw [if_pos True.intro]
  rw [if_neg h1, if_neg h1]
  simp only [swap_Partner.j0]
  by_cases h2 : u ≥ (l.length : Int)
  · rw [decide_eq_true h2, if_pos rfl, if_pos h2]
  rw [decide_eq_false h2, if_neg (by decide), if_pos (by omega), if_pos (by omega), if_neg h2]
  by_cases h3 : rd l u < 0
  · rw [if_pos h3, if_pos h3]
  rw [if_neg h3, if_neg h3]
  by_cases h4 : rd l u ≥ (l.length : Int)
  · rw [if_pos h4, if_pos h4]
  rw [if_neg h4, if_neg h4]
  by_cases h5 : rd l u = u
  · rw [if_pos h5, if_pos h5]
  rw [if_neg h5, if_neg h5, if_pos (by omega), if_pos (by omega)]
  split <;> rfl

theorem wrap_succ {i n : Int} (h0 : 0 ≤ i) (h1 : i ≤ n) (hn : n ≤ 1000) : wrap64 (i + 1) = i + 1 := by
  unfold wrap64; omega

theorem pattern_l (l : List Int) (hn : l.length ≤ 40) (d : Nat) : ∀ k i, i + d = l.length → d + 2 ≤ k →
    swap_Pattern.l0 k l (Pl.oneN l i : Nat) (Pl.twoN l i : Nat) (l.length : Nat) (i : Nat) = some (((Pl.oneN l l.length : Nat) : Int), ((Pl.twoN l l.length : Nat) : Int)) := by
  induction d with
  | zero =>
    intro k i hi hk
    obtain ⟨k, rfl⟩ : ∃ m, k = m + 1 := ⟨k - 1, by omega⟩
    obtain rfl : i = l.length := by omega
    simp only [swap_Pattern.l0]
    rw [if_neg (by omega)]
  | succ d ih =>
    intro k i hi hk
    obtain ⟨k, rfl⟩ : ∃ m, k = m + 1 := ⟨k - 1, by omega⟩
    simp only [swap_Pattern.l0]
    rw [if_pos (by omega), partner_f k l i (by omega)]
    simp only [Option.bind_some]
    have e1 : wrap64 ((i : Int) + 1) = ((i + 1 : Nat) : Int) := wrap_succ (n := 40) (by omega) (by omega) (by omega)
    have o1 := Pl.one_ok l i
    have t1 := Pl.two_le l i
    have g := ih k (i + 1) (by omega) (by omega)
    have eo : Pl.oneN l (i + 1) = Pl.oneN l i + if (Pl.pt l (i : Int)).2 = true then 0 else 1 := rfl
    have et : Pl.twoN l (i + 1) = Pl.twoN l i + if (Pl.pt l (i : Int)).2 = true ∧ (i : Int) < (Pl.pt l (i : Int)).1 then 1 else 0 := rfl
    by_cases h : (Pl.pt l (i : Int)).2 = true
    · rw [if_pos h] at eo
      by_cases h' : (i : Int) < (Pl.pt l (i : Int)).1
      · rw [if_pos ⟨h, h'⟩] at et
        rw [if_pos h, if_pos h', e1, wrap_succ (n := 40) (by omega) (by omega) (by omega), ← g, eo, et]; rfl
      · rw [if_neg (fun x => h' x.2)] at et
        rw [if_pos h, if_neg h', e1, ← g, eo, et]; rfl
    · rw [if_neg h] at eo
      rw [if_neg (fun x => h x.1)] at et
      rw [if_neg h, e1, wrap_succ (n := 40) (by omega) (by omega) (by omega), ← g, eo, et]; rfl

theorem pattern_f (l : List Int) (hn : l.length ≤ 40) (k : Nat) (hk : 42 ≤ k) : swap_Pattern.f k l = some (((Pl.oneN l l.length : Nat) : Int), ((Pl.twoN l l.length : Nat) : Int)) :=
  pattern_l l hn l.length k 0 (by omega) (by omega)

theorem wakes_10 : billetlaw26_wakes.f 10 = some true := by decide +kernel
theorem wakes_f (k : Nat) (hk : 10 ≤ k) : billetlaw26_wakes.f k = some true := at_rounds billetlaw26_wakes.mono hk wakes_10

theorem getD_set_eq {α : Type} (xs : List α) (i : Nat) (v z : α) (h : i < xs.length) : (xs.set i v).getD i z = v := by
  rw [List.getD_eq_getElem?_getD, List.getElem?_set_self h]; rfl
theorem getD_set_ne {α : Type} (xs : List α) (i j : Nat) (v z : α) (h : j ≠ i) : (xs.set i v).getD j z = xs.getD j z := by
  rw [List.getD_eq_getElem?_getD, List.getElem?_set_ne (fun x => h x.symm), List.getD_eq_getElem?_getD]
theorem getD_append_left {α : Type} (xs ys : List α) (j : Nat) (z : α) (h : j < xs.length) : (xs ++ ys).getD j z = xs.getD j z := by
  rw [List.getD_eq_getElem?_getD, List.getElem?_append_left h, List.getD_eq_getElem?_getD]
theorem getD_append_at {α : Type} (xs : List α) (v z : α) : (xs ++ [v]).getD xs.length z = v := by
  rw [List.getD_eq_getElem?_getD, List.getElem?_append_right (Nat.le_refl _)]; simp
theorem getD_replicate {α : Type} (n j : Nat) (z : α) : (List.replicate n z).getD j z = z := by
  rw [List.getD_eq_getElem?_getD, List.getElem?_replicate]; split <;> rfl

/-- What a user is told. -/
def outOf (l : List Int) (ts : List ByteArray) (u : Nat) : S51 :=
  ⟨(Pl.pt l (u : Int)).2, if (Pl.pt l (u : Int)).2 = true ∧ (Pl.pt l (u : Int)).1 < (ts.length : Int) then ts.getD (Pl.pt l (u : Int)).1.toNat ByteArray.empty else (⟨#[]⟩ : ByteArray)⟩

theorem out_l (l : List Int) (ts : List ByteArray) (hn : l.length ≤ 40) (d : Nat) : ∀ (k i : Nat) (xs : List S51), i + d = l.length → d + 2 ≤ k → xs.length = l.length →
    (∀ j, j < i → xs.getD j z51 = outOf l ts j) → (∀ j, i ≤ j → xs.getD j z51 = z51) →
    ∃ r, swap_Out.l0 k l ts xs (l.length : Nat) (i : Nat) = some r ∧ r.length = l.length ∧ ∀ j, j < l.length → r.getD j z51 = outOf l ts j := by
  induction d with
  | zero =>
    intro k i xs hi hk hl h1 h2
    obtain ⟨k, rfl⟩ : ∃ m, k = m + 1 := ⟨k - 1, by omega⟩
    obtain rfl : i = l.length := by omega
    exact ⟨xs, by simp only [swap_Out.l0]; rw [if_neg (by omega)], hl, h1⟩
  | succ d ih =>
    intro k i xs hi hk hl h1 h2
    obtain ⟨k, rfl⟩ : ∃ m, k = m + 1 := ⟨k - 1, by omega⟩
    simp only [swap_Out.l0]
    rw [if_pos (by omega), partner_f k l i (by omega)]
    simp only [Option.bind_some]
    rw [if_pos (by omega), if_pos (by omega)]
    have e1 : wrap64 ((i : Int) + 1) = ((i + 1 : Nat) : Int) := wrap_succ (n := 40) (by omega) (by omega) (by omega)
    have hz : rd_T51 xs (i : Int) = z51 := h2 i (Nat.le_refl _)
    rw [e1, hz]
    have key : ∀ ys : List S51, ys.length = l.length → ys.getD i z51 = outOf l ts i → (∀ j, j ≠ i → ys.getD j z51 = xs.getD j z51) →
        ∃ r, swap_Out.l0 k l ts ys (l.length : Nat) ((i + 1 : Nat) : Int) = some r ∧ r.length = l.length ∧ ∀ j, j < l.length → r.getD j z51 = outOf l ts j := by
      intro ys y1 y2 y3
      refine ih k (i + 1) ys (by omega) (by omega) y1 ?_ ?_
      · intro j hj
        by_cases e : j = i
        · rw [e, y2]
        · rw [y3 j e, h1 j (by omega)]
      · intro j hj
        rw [y3 j (by omega), h2 j (by omega)]
    by_cases ho : (Pl.pt l (i : Int)).2 = true
    · rw [if_pos ho]
      obtain ⟨_, _, p0, p1, _, _, _⟩ := Pl.rel_of_ok ho
      by_cases hp : (Pl.pt l (i : Int)).1 < (ts.length : Int)
      · rw [if_pos hp, if_pos p0]
        refine key _ (by simp [hl]) ?_ ?_
        · rw [Int.toNat_natCast, getD_set_eq _ _ _ _ (by rw [List.length_set]; omega)]
          have e2 : rd_T51 (xs.set i (⟨(Pl.pt l (i : Int)).2, z51.f1⟩ : S51)) (i : Int) = ⟨(Pl.pt l (i : Int)).2, z51.f1⟩ := getD_set_eq _ _ _ _ (by omega)
          rw [e2]
          unfold outOf rdOf
          rw [if_pos ⟨ho, hp⟩]
        · intro j hj
          rw [Int.toNat_natCast, getD_set_ne _ _ _ _ _ hj, getD_set_ne _ _ _ _ _ hj]
      · rw [if_neg hp]
        refine key _ (by simp [hl]) ?_ ?_
        · rw [Int.toNat_natCast, getD_set_eq _ _ _ _ (by omega)]
          unfold outOf
          rw [if_neg (fun x => hp x.2)]
          rfl
        · intro j hj
          rw [Int.toNat_natCast, getD_set_ne _ _ _ _ _ hj]
    · rw [if_neg ho]
      refine key _ (by simp [hl]) ?_ ?_
      · rw [Int.toNat_natCast, getD_set_eq _ _ _ _ (by omega)]
        unfold outOf
        rw [if_neg (fun x => ho x.1)]
        rfl
      · intro j hj
        rw [Int.toNat_natCast, getD_set_ne _ _ _ _ _ hj]

theorem out_f (l : List Int) (ts : List ByteArray) (hn : l.length ≤ 40) (k : Nat) (hk : 42 ≤ k) :
    ∃ r, swap_Out.f k l ts = some r ∧ r.length = l.length ∧ ∀ j, j < l.length → r.getD j z51 = outOf l ts j := by
  unfold swap_Out.f
  rw [if_pos (by omega), if_pos (by omega)]
  exact out_l l ts hn l.length k 0 _ (by omega) (by omega) (by simp) (fun j hj => by omega) (fun j _ => getD_replicate _ _ _)

theorem long_l (ts : List ByteArray) (hs : ts.length ≤ 140737488351232) (d : Nat) : ∀ (k i : Nat) (m : Int), i + d = ts.length → d + 1 ≤ k → 0 ≤ m → m ≤ 2000 → ∃ b, billetkeep_Long.l0 k ts m (i : Nat) = some b := by
  induction d with
  | zero =>
    intro k i m hi hk _ _
    obtain ⟨k, rfl⟩ : ∃ m, k = m + 1 := ⟨k - 1, by omega⟩
    simp only [billetkeep_Long.l0]
    rw [if_neg (by omega)]
    exact ⟨_, rfl⟩
  | succ d ih =>
    intro k i m hi hk h0 h1
    obtain ⟨k, rfl⟩ : ∃ m, k = m + 1 := ⟨k - 1, by omega⟩
    simp only [billetkeep_Long.l0]
    rw [if_pos (by omega), if_pos (by omega)]
    by_cases h : ((rdOf ByteArray.empty ts (i : Int)).size : Int) > m
    · rw [if_pos h]; exact ⟨_, rfl⟩
    · rw [if_neg h]
      have e1 : wrap64 ((i : Int) + 1) = ((i + 1 : Nat) : Int) := by unfold wrap64; omega
      have e2 : wrap64 (m - ((rdOf ByteArray.empty ts (i : Int)).size : Int)) = m - ((rdOf ByteArray.empty ts (i : Int)).size : Int) := by unfold wrap64; omega
      rw [e1, e2]
      exact ih k (i + 1) _ (by omega) (by omega) (by omega) (by omega)

theorem long_f (ts : List ByteArray) (hs : ts.length ≤ 140737488351232) (k : Nat) (hk : ts.length + 1 ≤ k) : ∃ b, billetkeep_Long.f k ts 2000 = some b :=
  long_l ts hs ts.length k 0 2000 (by omega) (by omega) (by omega) (by omega)

theorem outOf_near (l : List Int) (ts : List ByteArray) (u : Nat) (other : ByteArray) (hu : u < l.length) (ht : l.length ≤ ts.length) (i : Nat) :
    ((Pl.pt l (u : Int)).2 = true ∧ (i : Int) = (Pl.pt l (u : Int)).1 → outOf l (ts.set u other) i = ⟨true, other⟩) ∧
    (¬ ((Pl.pt l (u : Int)).2 = true ∧ (i : Int) = (Pl.pt l (u : Int)).1) → outOf l (ts.set u other) i = outOf l ts i) := by
  constructor
  · rintro ⟨h1, h2⟩
    have r := Pl.rel_of_ok h1
    rw [← h2] at r
    unfold outOf
    rw [Pl.pt_of_rel r.symm]
    rw [if_pos ⟨rfl, by rw [List.length_set]; omega⟩]
    rw [Int.toNat_natCast, getD_set_eq _ _ _ _ (by omega)]
  · intro h
    unfold outOf
    rw [List.length_set]
    by_cases ho : (Pl.pt l (i : Int)).2 = true
    · have r := Pl.rel_of_ok ho
      obtain ⟨_, _, p0, p1, p2, _, _⟩ := Pl.rel_of_ok ho
      have hne : (Pl.pt l (i : Int)).1.toNat ≠ u := by
        intro e
        have e2 : (Pl.pt l (i : Int)).1 = (u : Int) := by omega
        rw [e2] at r
        exact h (by rw [Pl.pt_of_rel r.symm]; exact ⟨rfl, rfl⟩)
      rw [getD_set_ne _ _ _ _ _ hne]
    · rw [if_neg (fun x => ho x.1), if_neg (fun x => ho x.1)]

theorem alone_l (l : List Int) (ts : List ByteArray) (u : Nat) (other : ByteArray) (x8 x10 : List S51) (hn : l.length ≤ 40) (hu : u < l.length) (ht : l.length ≤ ts.length)
    (h8 : x8.length = l.length) (h10 : x10.length = l.length) (g8 : ∀ j, j < l.length → x8.getD j z51 = outOf l ts j) (g10 : ∀ j, j < l.length → x10.getD j z51 = outOf l (ts.set u other) j) (d : Nat) :
    ∀ (k i : Nat), i + d = l.length → 3 * d + 20 ≤ k → billetlaw26_SwapAlone.l0 k other x8 x10 (Pl.pt l (u : Int)).1 (Pl.pt l (u : Int)).2 (i : Nat) = some true := by
  induction d with
  | zero =>
    intro k i hi hk
    obtain ⟨k, rfl⟩ : ∃ m, k = m + 1 := ⟨k - 1, by omega⟩
    simp only [billetlaw26_SwapAlone.l0]
    rw [if_neg (by omega), wakes_f k (by omega)]; rfl
  | succ d ih =>
    intro k i hi hk
    obtain ⟨k, rfl⟩ : ∃ m, k = m + 3 := ⟨k - 3, by omega⟩
    simp only [billetlaw26_SwapAlone.l0]
    have e1 : wrap64 ((i : Int) + 1) = ((i + 1 : Nat) : Int) := wrap_succ (n := 40) (by omega) (by omega) (by omega)
    have q8 : rd_T51 x8 (i : Int) = outOf l ts i := g8 i (by omega)
    have q10 : rd_T51 x10 (i : Int) = outOf l (ts.set u other) i := g10 i (by omega)
    obtain ⟨n1, n2⟩ := outOf_near l ts u other hu ht i
    have far : ¬ ((Pl.pt l (u : Int)).2 = true ∧ (i : Int) = (Pl.pt l (u : Int)).1) →
        billetlaw26_SwapAlone.j3 (k + 2) other x8 x10 (Pl.pt l (u : Int)).1 (Pl.pt l (u : Int)).2 (i : Nat) false = some true := by
      intro h
      simp only [billetlaw26_SwapAlone.j3]
      rw [if_neg (by decide), if_pos (by omega), if_pos (by omega), if_pos (by omega), q8, q10, n2 h, if_neg (by simp), e1]
      exact ih (k + 1) (i + 1) (by omega) (by omega)
    rw [if_pos (by omega)]
    by_cases ho : (Pl.pt l (u : Int)).2 = true
    · rw [if_pos ho]
      by_cases hv : (i : Int) = (Pl.pt l (u : Int)).1
      · rw [beq_iff_eq.2 hv]
        simp only [billetlaw26_SwapAlone.j3]
        rw [if_pos True.intro, if_pos (by omega), if_pos (by omega), q10, n1 ⟨ho, hv⟩, if_pos rfl]
        simp only [billetlaw26_SwapAlone.j4]
        rw [if_neg (by simp), e1]
        exact ih k (i + 1) (by omega) (by omega)
      · rw [beq_eq_false_iff_ne.2 hv]
        exact far (fun x => hv x.2)
    · rw [if_neg ho]
      exact far (fun x => ho x.1)

end SwapAloneL
open SwapAloneL
/-- Of whatever is asked, so many texts as may be: it answers true. -/
theorem SwapAlone (l : List Int) (ts : List ByteArray) (a : Int) (other : ByteArray) (hs : ts.length * 16 ≤ 140737488351232) (ha : 0 ≤ a ∧ a ≤ 255) : ∃ k, billetlaw26_SwapAlone.f k l ts a other = some true := by
  refine ⟨ts.length + 300, ?_⟩
  unfold billetlaw26_SwapAlone.f
  have away : billetlaw26_SwapAlone.j0 (ts.length + 300) l ts a other true = some true := by
    simp only [billetlaw26_SwapAlone.j0]
    rw [if_pos True.intro, wakes_f _ (by omega)]; rfl
  by_cases h1 : (l.length : Int) > 40
  · rw [if_pos h1]; exact away
  rw [if_neg h1]
  by_cases h2 : (l.length : Int) = 0
  · rw [if_pos h2]; exact away
  rw [if_neg h2]
  by_cases h3 : (ts.length : Int) < (l.length : Int)
  · rw [if_pos h3]; exact away
  rw [if_neg h3]
  obtain ⟨b, hb⟩ := long_f ts (by omega) (ts.length + 300) (by omega)
  rw [hb]
  simp only [Option.bind_some]
  cases b with
  | true => rw [if_pos rfl]; exact away
  | false =>
    rw [if_neg (by decide)]
    by_cases h4 : (other.size : Int) > 100
    · rw [decide_eq_true h4]; exact away
    rw [decide_eq_false h4]
    simp only [billetlaw26_SwapAlone.j0]
    rw [if_neg (by decide), if_neg h2]
    have hw : wrap64 a = a := by unfold wrap64; omega
    rw [hw]
    have hm : 0 ≤ Int.tmod a (l.length : Int) := Int.tmod_nonneg _ ha.1
    have hm2 := Int.tmod_lt_of_pos a (by omega : (0 : Int) < (l.length : Int))
    generalize Int.tmod a (l.length : Int) = j at *
    obtain ⟨u, rfl⟩ : ∃ u : Nat, j = (u : Int) := ⟨j.toNat, by omega⟩
    obtain ⟨r, hr, hrl, hrg⟩ := out_f l ts (by omega) (ts.length + 299) (by omega)
    obtain ⟨m, hm', hml, hmg⟩ := out_f l (ts.set u other) (by omega) (ts.length + 299) (by omega)
    rw [hr]
    simp only [Option.bind_some, List.nil_append, List.length_nil, Int.toNat_natCast]
    rw [if_pos (by omega), if_pos hm, if_pos (by omega), hm', partner_f _ l _ (by omega)]
    simp only [Option.bind_some]
    rw [if_pos (by omega)]
    simp only [billetlaw26_SwapAlone.j1]
    rw [if_neg (by simp [hml])]
    exact alone_l l ts u other r m (by omega) (by omega) (by omega) hrl hml hrg hmg l.length _ 0 (by omega) (by omega)

end Go.Proofs.Ytbaljleimiflmaa.Pure
