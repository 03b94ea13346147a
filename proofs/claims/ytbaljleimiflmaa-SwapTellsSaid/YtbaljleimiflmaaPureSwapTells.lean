/-
  The plain law of SwapTells: of any choices, any texts: any user's partner, what each is told, how many are alone, how many pairs there are: the document's own answers. No condition but the sizes that the statement bears.
-/
import Derived.Test.YtbaljleimiflmaaQSwapTellsx4
import Derived.Test.YtbaljleimiflmaaPl
namespace Go.Proofs.Ytbaljleimiflmaa.Pure
open Go.RowKit Go.Proofs.Ytbaljleimiflmaa.PSwapTells Go.Proofs.YtbaljleimiflmaaW.PrintWords Go.Proofs.YtbaljleimiflmaaW.PrintLast
namespace SwapTellsL

theorem partner_f (k : Nat) (l : List Int) (u : Int) (hk : 1 ≤ k) : swap_Partner.f k l u = some (Pl.pt l u) := by
  obtain ⟨k, rfl⟩ : ∃ m, k = m + 1 := ⟨k - 1, by omega⟩
  have hp : Pl.pt l u = if u < 0 then (0, false) else if u ≥ (l.length : Int) then (0, false) else if rd l u < 0 then (0, false) else if rd l u ≥ (l.length : Int) then (0, false) else
    if rd l u = u then (0, false) else if rd l (rd l u) = u then (rd l u, true) else (0, false) := rfl
  rw [hp]
  unfold swap_Partner.f
  by_cases h1 : u < 0
  · rw [if_pos h1, if_pos h1]; simp only [swap_Partner.j0]; rw [if_pos True.intro]
  rw [if_neg h1, if_neg h1]
  simp only [swap_Partner.j0]
  by_cases h2 : u ≥ (l.length : Int)
  · rw [decide_eq_true h2, if_pos rfl, if_pos h2]
  rw [decide_eq_false h2, if_neg (by decide), if_pos (by omega), if_pos (by omega), if_neg h2]
  by_cases h3 : rd l u < 0
  · rw [if_pos h3, if_pos h3]
  rw [if_neg h3, if_neg h3]
  by_cases h4 : rd l u ≥ (l.length : Int)
  · rw [if_pos h4, if_pos h4]
  rw [if_neg h4, if_neg h4]
  by_cases h5 : rd l u = u
  · rw [if_pos h5, if_pos h5]
  rw [if_neg h5, if_neg h5, if_pos (by omega), if_pos (by omega)]
  split <;> rfl

theorem wrap_succ {i n : Int} (h0 : 0 ≤ i) (h1 : i ≤ n) (hn : n ≤ 1000) : wrap64 (i + 1) = i + 1 := by
  unfold wrap64; omega

theorem pattern_l (l : List Int) (hn : l.length ≤ 40) (d : Nat) : ∀ k i, i + d = l.length → d + 2 ≤ k →
    swap_Pattern.l0 k l (Pl.oneN l i : Nat) (Pl.twoN l i : Nat) (l.length : Nat) (i : Nat) = some (((Pl.oneN l l.length : Nat) : Int), ((Pl.twoN l l.length : Nat) : Int)) := by
  induction d with
  | zero =>
    intro k i hi hk
    obtain ⟨k, rfl⟩ : ∃ m, k = m + 1 := ⟨k - 1, by omega⟩
    obtain rfl : i = l.length := by omega
    simp only [swap_Pattern.l0]
    rw [if_neg (by omega)]
  | succ d ih =>
    intro k i hi hk
    obtain ⟨k, rfl⟩ : ∃ m, k = m + 1 := ⟨k - 1, by omega⟩
    simp only [swap_Pattern.l0]
    rw [if_pos (by omega), partner_f k l i (by omega)]
    simp only [Option.bind_some]
    have e1 : wrap64 ((i : Int) + 1) = ((i + 1 : Nat) : Int) := wrap_succ (n := 40) (by omega) (by omega) (by omega)
    have o1 := Pl.one_ok l i
    have t1 := Pl.two_le l i
    have g := ih k (i + 1) (by omega) (by omega)
    have eo : Pl.oneN l (i + 1) = Pl.oneN l i + if (Pl.pt l (i : Int)).2 = true then 0 else 1 := rfl
    have et : Pl.twoN l (i + 1) = Pl.twoN l i + if (Pl.pt l (i : Int)).2 = true ∧ (i : Int) < (Pl.pt l (i : Int)).1 then 1 else 0 := rfl
    by_cases h : (Pl.pt l (i : Int)).2 = true
    · rw [if_pos h] at eo
      by_cases h' : (i : Int) < (Pl.pt l (i : Int)).1
      · rw [if_pos ⟨h, h'⟩] at et
        rw [if_pos h, if_pos h', e1, wrap_succ (n := 40) (by omega) (by omega) (by omega), ← g, eo, et]; rfl
      · rw [if_neg (fun x => h' x.2)] at et
        rw [if_pos h, if_neg h', e1, ← g, eo, et]; rfl
    · rw [if_neg h] at eo
      rw [if_neg (fun x => h x.1)] at et
      rw [if_neg h, e1, wrap_succ (n := 40) (by omega) (by omega) (by omega), ← g, eo, et]; rfl

theorem pattern_f (l : List Int) (hn : l.length ≤ 40) (k : Nat) (hk : 42 ≤ k) : swap_Pattern.f k l = some (((Pl.oneN l l.length : Nat) : Int), ((Pl.twoN l l.length : Nat) : Int)) :=
  pattern_l l hn l.length k 0 (by omega) (by omega)

theorem wakes_10 : billetlaw26_wakes.f 10 = some true := by decide +kernel
theorem wakes_f (k : Nat) (hk : 10 ≤ k) : billetlaw26_wakes.f k = some true := at_rounds billetlaw26_wakes.mono hk wakes_10

theorem getD_set_eq {α : Type} (xs : List α) (i : Nat) (v z : α) (h : i < xs.length) : (xs.set i v).getD i z = v := by
  rw [List.getD_eq_getElem?_getD, List.getElem?_set_self h]; rfl
theorem getD_set_ne {α : Type} (xs : List α) (i j : Nat) (v z : α) (h : j ≠ i) : (xs.set i v).getD j z = xs.getD j z := by
  rw [List.getD_eq_getElem?_getD, List.getElem?_set_ne (fun x => h x.symm), List.getD_eq_getElem?_getD]
theorem getD_append_left {α : Type} (xs ys : List α) (j : Nat) (z : α) (h : j < xs.length) : (xs ++ ys).getD j z = xs.getD j z := by
  rw [List.getD_eq_getElem?_getD, List.getElem?_append_left h, List.getD_eq_getElem?_getD]
theorem getD_append_at {α : Type} (xs : List α) (v z : α) : (xs ++ [v]).getD xs.length z = v := by
  rw [List.getD_eq_getElem?_getD, List.getElem?_append_right (Nat.le_refl _)]; simp
theorem getD_replicate {α : Type} (n j : Nat) (z : α) : (List.replicate n z).getD j z = z := by
  rw [List.getD_eq_getElem?_getD, List.getElem?_replicate]; split <;> rfl

/-- What a user is told. -/
def outOf (l : List Int) (ts : List ByteArray) (u : Nat) : S51 :=
  ⟨(Pl.pt l (u : Int)).2, if (Pl.pt l (u : Int)).2 = true ∧ (Pl.pt l (u : Int)).1 < (ts.length : Int) then ts.getD (Pl.pt l (u : Int)).1.toNat ByteArray.empty else (⟨#[]⟩ : ByteArray)⟩

theorem out_l (l : List Int) (ts : List ByteArray) (hn : l.length ≤ 40) (d : Nat) : ∀ (k i : Nat) (xs : List S51), i + d = l.length → d + 2 ≤ k → xs.length = l.length →
    (∀ j, j < i → xs.getD j z51 = outOf l ts j) → (∀ j, i ≤ j → xs.getD j z51 = z51) →
    ∃ r, swap_Out.l0 k l ts xs (l.length : Nat) (i : Nat) = some r ∧ r.length = l.length ∧ ∀ j, j < l.length → r.getD j z51 = outOf l ts j := by
  induction d with
  | zero =>
    intro k i xs hi hk hl h1 h2
    obtain ⟨k, rfl⟩ : ∃ m, k = m + 1 := ⟨k - 1, by omega⟩
    obtain rfl : i = l.length := by omega
    exact ⟨xs, by simp only [swap_Out.l0]; rw [if_neg (by omega)], hl, h1⟩
  | succ d ih =>
    intro k i xs hi hk hl h1 h2
    obtain ⟨k, rfl⟩ : ∃ m, k = m + 1 := ⟨k - 1, by omega⟩
    simp only [swap_Out.l0]
    rw [if_pos (by omega), partner_f k l i (by omega)]
    simp only [Option.bind_some]
    rw [if_pos (by omega), if_pos (by omega)]
    have e1 : wrap64 ((i : Int) + 1) = ((i + 1 : Nat) : Int) := wrap_succ (n := 40) (by omega) (by omega) (by omega)
    have hz : rd_T51 xs (i : Int) = z51 := h2 i (Nat.le_refl _)
    rw [e1, hz]
    have key : ∀ ys : List S51, ys.length = l.length → ys.getD i z51 = outOf l ts i → (∀ j, j ≠ i → ys.getD j z51 = xs.getD j z51) →
        ∃ r, swap_Out.l0 k l ts ys (l.length : Nat) ((i + 1 : Nat) : Int) = some r ∧ r.length = l.length ∧ ∀ j, j < l.length → r.getD j z51 = outOf l ts j := by
      intro ys y1 y2 y3
      refine ih k (i + 1) ys (by omega) (by omega) y1 ?_ ?_
      · intro j hj
        by_cases e : j = i
        · rw [e, y2]
        · rw [y3 j e, h1 j (by omega)]
      · intro j hj
        rw [y3 j (by omega), h2 j (by omega)]
    by_cases ho : (Pl.pt l (i : Int)).2 = true
    · rw [if_pos ho]
      obtain ⟨_, _, p0, p1, _, _, _⟩ := Pl.rel_of_ok ho
      by_cases hp : (Pl.pt l (i : Int)).1 < (ts.length : Int)
      · rw [if_pos hp, if_pos p0]
        refine key _ (by simp [hl]) ?_ ?_
        · rw [Int.toNat_natCast, getD_set_eq _ _ _ _ (by rw [List.length_set]; omega)]
          have e2 : rd_T51 (xs.set i (⟨(Pl.pt l (i : Int)).2, z51.f1⟩ : S51)) (i : Int) = ⟨(Pl.pt l (i : Int)).2, z51.f1⟩ := getD_set_eq _ _ _ _ (by omega)
          rw [e2]
          unfold outOf rdOf
          rw [if_pos ⟨ho, hp⟩]
        · intro j hj
          rw [Int.toNat_natCast, getD_set_ne _ _ _ _ _ hj, getD_set_ne _ _ _ _ _ hj]
      · rw [if_neg hp]
        refine key _ (by simp [hl]) ?_ ?_
        · rw [Int.toNat_natCast, getD_set_eq _ _ _ _ (by omega)]
          unfold outOf
          rw [if_neg (fun x => hp x.2)]
          rfl
        · intro j hj
          rw [Int.toNat_natCast, getD_set_ne _ _ _ _ _ hj]
    · rw [if_neg ho]
      refine key _ (by simp [hl]) ?_ ?_
      · rw [Int.toNat_natCast, getD_set_eq _ _ _ _ (by omega)]
        unfold outOf
        rw [if_neg (fun x => ho x.1)]
        rfl
      · intro j hj
        rw [Int.toNat_natCast, getD_set_ne _ _ _ _ _ hj]

theorem out_f (l : List Int) (ts : List ByteArray) (hn : l.length ≤ 40) (k : Nat) (hk : 42 ≤ k) :
    ∃ r, swap_Out.f k l ts = some r ∧ r.length = l.length ∧ ∀ j, j < l.length → r.getD j z51 = outOf l ts j := by
  unfold swap_Out.f
  rw [if_pos (by omega), if_pos (by omega)]
  exact out_l l ts hn l.length k 0 _ (by omega) (by omega) (by simp) (fun j hj => by omega) (fun j _ => getD_replicate _ _ _)

theorem long_l (ts : List ByteArray) (hs : ts.length ≤ 140737488351232) (d : Nat) : ∀ (k i : Nat) (m : Int), i + d = ts.length → d + 1 ≤ k → 0 ≤ m → m ≤ 2000 → ∃ b, billetkeep_Long.l0 k ts m (i : Nat) = some b := by
  induction d with
  | zero =>
    intro k i m hi hk _ _
    obtain ⟨k, rfl⟩ : ∃ m, k = m + 1 := ⟨k - 1, by omega⟩
    simp only [billetkeep_Long.l0]
    rw [if_neg (by omega)]
    exact ⟨_, rfl⟩
  | succ d ih =>
    intro k i m hi hk h0 h1
    obtain ⟨k, rfl⟩ : ∃ m, k = m + 1 := ⟨k - 1, by omega⟩
    simp only [billetkeep_Long.l0]
    rw [if_pos (by omega), if_pos (by omega)]
    by_cases h : ((rdOf ByteArray.empty ts (i : Int)).size : Int) > m
    · rw [if_pos h]; exact ⟨_, rfl⟩
    · rw [if_neg h]
      have e1 : wrap64 ((i : Int) + 1) = ((i + 1 : Nat) : Int) := by unfold wrap64; omega
      have e2 : wrap64 (m - ((rdOf ByteArray.empty ts (i : Int)).size : Int)) = m - ((rdOf ByteArray.empty ts (i : Int)).size : Int) := by unfold wrap64; omega
      rw [e1, e2]
      exact ih k (i + 1) _ (by omega) (by omega) (by omega) (by omega)

theorem long_f (ts : List ByteArray) (hs : ts.length ≤ 140737488351232) (k : Nat) (hk : ts.length + 1 ≤ k) : ∃ b, billetkeep_Long.f k ts 2000 = some b :=
  long_l ts hs ts.length k 0 2000 (by omega) (by omega) (by omega) (by omega)

theorem ref_partner_l (l : List Int) (u : Int) (hn : l.length ≤ 40) (d : Nat) : ∀ (k v : Nat), v + d = l.length → d + 1 ≤ k → (∀ w : Nat, w < v → ¬ Pl.Rel l u (w : Int)) →
    billetref26_Partner.l0 k l u (v : Nat) = some (Pl.pt l u) := by
  induction d with
  | zero =>
    intro k v hv hk h
    obtain ⟨k, rfl⟩ : ∃ m, k = m + 1 := ⟨k - 1, by omega⟩
    simp only [billetref26_Partner.l0]
    rw [if_neg (by omega)]
    rcases Pl.pt_cases l u with e | ⟨w, e, r⟩
    · rw [e]
    · obtain ⟨_, _, p0, p1, _, _, _⟩ := id r
      exact absurd (by rw [Int.toNat_of_nonneg p0]; exact r) (h w.toNat (by omega))
  | succ d ih =>
    intro k v hv hk h
    obtain ⟨k, rfl⟩ : ∃ m, k = m + 1 := ⟨k - 1, by omega⟩
    have e1 : wrap64 ((v : Int) + 1) = ((v + 1 : Nat) : Int) := wrap_succ (n := 40) (by omega) (by omega) (by omega)
    simp only [billetref26_Partner.l0]
    rw [e1, if_pos (by omega)]
    by_cases hr : Pl.Rel l u (v : Int)
    · obtain ⟨a, b, c, e, f, g, i⟩ := id hr
      rw [if_pos a, if_pos b, if_neg f, if_pos a, if_pos (show rd l u = (v : Int) from g), if_pos c, if_pos (show rd l (v : Int) = u from i), Pl.pt_of_rel hr]
    · have go := ih k (v + 1) (by omega) (by omega) (fun w hw => by
        by_cases e : w = v
        · subst e; exact hr
        · exact h w (by omega))
      rw [go]
      by_cases a : u ≥ 0
      · rw [if_pos a]
        by_cases b : u < (l.length : Int)
        · rw [if_pos b]
          by_cases c : (v : Int) = u
          · rw [if_pos c]
          · rw [if_neg c, if_pos a]
            by_cases e : rd l u = (v : Int)
            · rw [if_pos e, if_pos (by omega), if_neg]
              intro f
              exact hr ⟨a, b, by omega, by omega, c, e, f⟩
            · rw [if_neg e]
        · rw [if_neg b]
      · rw [if_neg a]

theorem ref_partner_f (l : List Int) (u : Int) (hn : l.length ≤ 40) (k : Nat) (hk : 41 ≤ k) : billetref26_Partner.f k l u = some (Pl.pt l u) :=
  ref_partner_l l u hn l.length k 0 (by omega) (by omega) (fun w hw => by omega)

theorem ref_pattern_l (l : List Int) (hn : l.length ≤ 40) (d : Nat) : ∀ (k i : Nat), i + d = l.length → d + 42 ≤ k →
    billetref26_Pattern.l0 k l (Pl.okN l i : Nat) (i : Nat) = some (((Pl.oneN l l.length : Nat) : Int), ((Pl.twoN l l.length : Nat) : Int)) := by
  induction d with
  | zero =>
    intro k i hi hk
    obtain ⟨k, rfl⟩ : ∃ m, k = m + 1 := ⟨k - 1, by omega⟩
    obtain rfl : i = l.length := by omega
    simp only [billetref26_Pattern.l0]
    have a1 := Pl.one_ok l l.length
    have b1 := Pl.ok_two l
    rw [if_neg (by omega)]
    have w1 : wrap64 ((l.length : Int) - ((Pl.okN l l.length : Nat) : Int)) = ((Pl.oneN l l.length : Nat) : Int) := by unfold wrap64; omega
    have w2 : Int.tdiv ((Pl.okN l l.length : Nat) : Int) 2 = ((Pl.twoN l l.length : Nat) : Int) := by
      rw [Int.tdiv_eq_ediv_of_nonneg (by omega)]; omega
    rw [w1, w2]
    have w3 : wrap64 ((Pl.twoN l l.length : Nat) : Int) = ((Pl.twoN l l.length : Nat) : Int) := by unfold wrap64; omega
    rw [w3]
  | succ d ih =>
    intro k i hi hk
    obtain ⟨k, rfl⟩ : ∃ m, k = m + 1 := ⟨k - 1, by omega⟩
    have e1 : wrap64 ((i : Int) + 1) = ((i + 1 : Nat) : Int) := wrap_succ (n := 40) (by omega) (by omega) (by omega)
    simp only [billetref26_Pattern.l0]
    rw [if_pos (by omega), ref_partner_f l _ hn k (by omega), e1]
    simp only [Option.bind_some]
    have a1 := Pl.one_ok l i
    have eo : Pl.okN l (i + 1) = Pl.okN l i + if (Pl.pt l (i : Int)).2 = true then 1 else 0 := rfl
    have g := ih k (i + 1) (by omega) (by omega)
    by_cases ho : (Pl.pt l (i : Int)).2 = true
    · rw [if_pos ho] at eo
      rw [if_pos ho, wrap_succ (n := 40) (by omega) (by omega) (by omega), ← g, eo]; rfl
    · rw [if_neg ho] at eo
      rw [if_neg ho, ← g, eo]; rfl

theorem ref_pattern_f (l : List Int) (hn : l.length ≤ 40) (k : Nat) (hk : 82 ≤ k) : billetref26_Pattern.f k l = some (((Pl.oneN l l.length : Nat) : Int), ((Pl.twoN l l.length : Nat) : Int)) :=
  ref_pattern_l l hn l.length k 0 (by omega) (by omega)

/-- What a user is told, by the document. -/
def toldOf (l : List Int) (ts : List ByteArray) (u : Nat) : S52 := ⟨(outOf l ts u).f0, (outOf l ts u).f1⟩

theorem told_l (l : List Int) (ts : List ByteArray) (hn : l.length ≤ 40) (d : Nat) : ∀ (k i : Nat) (xs : List S52), i + d = l.length → d + 42 ≤ k → xs.length = l.length →
    (∀ j, j < i → xs.getD j z52 = toldOf l ts j) → (∀ j, i ≤ j → xs.getD j z52 = z52) →
    ∃ r, billetref26_Told.l0 k l ts xs (i : Nat) = some r ∧ r.length = l.length ∧ ∀ j, j < l.length → r.getD j z52 = toldOf l ts j := by
  induction d with
  | zero =>
    intro k i xs hi hk hl h1 h2
    obtain ⟨k, rfl⟩ : ∃ m, k = m + 1 := ⟨k - 1, by omega⟩
    obtain rfl : i = l.length := by omega
    exact ⟨xs, by simp only [billetref26_Told.l0]; rw [if_neg (by omega)], hl, h1⟩
  | succ d ih =>
    intro k i xs hi hk hl h1 h2
    obtain ⟨k, rfl⟩ : ∃ m, k = m + 1 := ⟨k - 1, by omega⟩
    simp only [billetref26_Told.l0]
    rw [if_pos (by omega), ref_partner_f l _ hn k (by omega)]
    simp only [Option.bind_some]
    have e1 : wrap64 ((i : Int) + 1) = ((i + 1 : Nat) : Int) := wrap_succ (n := 40) (by omega) (by omega) (by omega)
    have hz : rd_T52 xs (i : Int) = z52 := h2 i (Nat.le_refl _)
    rw [e1, hz]
    have key : ∀ ys : List S52, ys.length = l.length → ys.getD i z52 = toldOf l ts i → (∀ j, j ≠ i → ys.getD j z52 = xs.getD j z52) →
        ∃ r, billetref26_Told.l0 k l ts ys ((i + 1 : Nat) : Int) = some r ∧ r.length = l.length ∧ ∀ j, j < l.length → r.getD j z52 = toldOf l ts j := by
      intro ys y1 y2 y3
      refine ih k (i + 1) ys (by omega) (by omega) y1 ?_ ?_
      · intro j hj
        by_cases e : j = i
        · rw [e, y2]
        · rw [y3 j e, h1 j (by omega)]
      · intro j hj
        rw [y3 j (by omega), h2 j (by omega)]
    by_cases ho : (Pl.pt l (i : Int)).2 = true
    · rw [if_pos ho, if_pos (by omega), if_pos (by omega)]
      obtain ⟨_, _, p0, p1, _, _, _⟩ := Pl.rel_of_ok ho
      by_cases hp : (Pl.pt l (i : Int)).1 < (ts.length : Int)
      · rw [if_pos hp, if_pos p0]
        refine key _ (by simp [hl]) ?_ ?_
        · rw [Int.toNat_natCast, getD_set_eq _ _ _ _ (by rw [List.length_set]; omega)]
          have e2 : rd_T52 (xs.set i (⟨true, z52.f1⟩ : S52)) (i : Int) = ⟨true, z52.f1⟩ := getD_set_eq _ _ _ _ (by omega)
          rw [e2]
          unfold toldOf outOf rdOf
          rw [if_pos ⟨ho, hp⟩, ho]
        · intro j hj
          rw [Int.toNat_natCast, getD_set_ne _ _ _ _ _ hj, getD_set_ne _ _ _ _ _ hj]
      · rw [if_neg hp]
        refine key _ (by simp [hl]) ?_ ?_
        · rw [Int.toNat_natCast, getD_set_eq _ _ _ _ (by omega)]
          unfold toldOf outOf
          rw [if_neg (fun x => hp x.2), ho]
          rfl
        · intro j hj
          rw [Int.toNat_natCast, getD_set_ne _ _ _ _ _ hj]
    · rw [if_neg ho]
      refine key _ hl ?_ (fun j _ => rfl)
      have hf : (Pl.pt l (i : Int)).2 = false := by simpa using ho
      rw [h2 i (Nat.le_refl _)]
      unfold toldOf outOf
      rw [if_neg (fun x => ho x.1), hf]
      rfl

theorem told_f (l : List Int) (ts : List ByteArray) (hn : l.length ≤ 40) (k : Nat) (hk : 82 ≤ k) :
    ∃ r, billetref26_Told.f k l ts = some r ∧ r.length = l.length ∧ ∀ j, j < l.length → r.getD j z52 = toldOf l ts j := by
  unfold billetref26_Told.f
  rw [if_pos (by omega), if_pos (by omega)]
  exact told_l l ts hn l.length k 0 _ (by omega) (by omega) (by simp) (fun j hj => by omega) (fun j _ => getD_replicate _ _ _)

theorem ints_l (l : List Int) (hn : l.length ≤ 40) (d : Nat) : ∀ (k i : Nat), i + d = l.length → d + 1 ≤ k → billetkeep_Ints.l0 k l l (i : Nat) = some true := by
  induction d with
  | zero =>
    intro k i hi hk
    obtain ⟨k, rfl⟩ : ∃ m, k = m + 1 := ⟨k - 1, by omega⟩
    simp only [billetkeep_Ints.l0]
    rw [if_neg (by omega)]
  | succ d ih =>
    intro k i hi hk
    obtain ⟨k, rfl⟩ : ∃ m, k = m + 1 := ⟨k - 1, by omega⟩
    simp only [billetkeep_Ints.l0]
    rw [if_pos (by omega), if_pos (by omega), if_pos (by omega), if_pos True.intro, wrap_succ (n := 40) (by omega) (by omega) (by omega)]
    exact ih k (i + 1) (by omega) (by omega)

theorem ints_f (l : List Int) (hn : l.length ≤ 40) (k : Nat) (hk : 41 ≤ k) : billetkeep_Ints.f k l l = some true := by
  unfold billetkeep_Ints.f
  rw [if_pos rfl]
  exact ints_l l hn l.length k 0 (by omega) (by omega)

theorem tells_l (l : List Int) (ts : List ByteArray) (x12 : List S51) (x13 : List S52) (hn : l.length ≤ 40) (h12 : x12.length = l.length) (h13 : x13.length = l.length)
    (g12 : ∀ j, j < l.length → x12.getD j z51 = outOf l ts j) (g13 : ∀ j, j < l.length → x13.getD j z52 = toldOf l ts j) (d : Nat) :
    ∀ (k i : Nat), i + d = l.length → d + 60 ≤ k → billetlaw26_SwapTells.l0 k l l x12 x13 (i : Nat) = some true := by
  induction d with
  | zero =>
    intro k i hi hk
    obtain ⟨k, rfl⟩ : ∃ m, k = m + 1 := ⟨k - 1, by omega⟩
    simp only [billetlaw26_SwapTells.l0]
    rw [if_neg (by omega), ints_f l hn k (by omega)]
    simp only [Option.bind_some]
    rw [if_pos True.intro, wakes_f k (by omega)]; rfl
  | succ d ih =>
    intro k i hi hk
    obtain ⟨k, rfl⟩ : ∃ m, k = m + 1 := ⟨k - 1, by omega⟩
    simp only [billetlaw26_SwapTells.l0]
    have q12 : rd_T51 x12 (i : Int) = outOf l ts i := g12 i (by omega)
    have q13 : rd_T52 x13 (i : Int) = toldOf l ts i := g13 i (by omega)
    rw [if_pos (by omega), if_pos (by omega), if_pos (by omega), q12, q13, if_neg (by simp [toldOf]), wrap_succ (n := 40) (by omega) (by omega) (by omega)]
    exact ih k (i + 1) (by omega) (by omega)

end SwapTellsL
open SwapTellsL
/-- Of whatever choices, so many texts as may be: it answers true. -/
theorem SwapTells (l : List Int) (ts : List ByteArray) (u : Int) (hs : ts.length * 16 ≤ 140737488351232) : ∃ k, billetlaw26_SwapTells.f k l ts u = some true := by
  refine ⟨ts.length + 300, ?_⟩
  unfold billetlaw26_SwapTells.f
  have away : billetlaw26_SwapTells.j0 (ts.length + 300) l ts u true = some true := by
    simp only [billetlaw26_SwapTells.j0]
    rw [if_pos True.intro, wakes_f _ (by omega)]; rfl
  by_cases h1 : (l.length : Int) > 40
  · rw [if_pos h1]; exact away
  rw [if_neg h1]
  obtain ⟨b, hb⟩ := long_f ts (by omega) (ts.length + 300) (by omega)
  rw [hb]
  simp only [Option.bind_some]
  cases b with
  | true => exact away
  | false =>
    simp only [billetlaw26_SwapTells.j0]
    rw [if_neg (by decide)]
    obtain ⟨r, hr, hrl, hrg⟩ := out_f l ts (by omega) (ts.length + 299) (by omega)
    obtain ⟨m, hm', hml, hmg⟩ := told_f l ts (by omega) (ts.length + 299) (by omega)
    simp only [Option.bind_some, List.nil_append, List.length_nil]
    rw [if_pos (by omega), partner_f _ l _ (by omega), ref_partner_f l _ (by omega) _ (by omega), hr, hm', pattern_f l (by omega) _ (by omega), ref_pattern_f l (by omega) _ (by omega)]
    simp only [Option.bind_some]
    rw [if_pos True.intro, if_neg (by simp), if_pos (by omega), if_pos True.intro]
    simp only [billetlaw26_SwapTells.j1]
    rw [if_neg (by simp)]
    exact tells_l l ts r m (by omega) hrl hml hrg hmg l.length _ 0 (by omega) (by omega)

end Go.Proofs.Ytbaljleimiflmaa.Pure
