/-
  The plain law of SwapTurns: of any choices: a partner's partner is oneself; who is told something is told it by one who is told something; swapped once more, each has his own. No condition but the sizes that the statement bears.
-/
import Derived.Test.YtbaljleimiflmaaQSwapTurnsx3
import Derived.Test.YtbaljleimiflmaaPl
namespace Go.Proofs.Ytbaljleimiflmaa.Pure
open Go.RowKit Go.Proofs.Ytbaljleimiflmaa.PSwapTurns Go.Proofs.YtbaljleimiflmaaW.PrintWords Go.Proofs.YtbaljleimiflmaaW.PrintLast
namespace SwapTurnsL

theorem partner_f (k : Nat) (l : List Int) (u : Int) (hk : 1 ≤ k) : swap_Partner.f k l u = some (Pl.pt l u) := by
  obtain ⟨k, rfl⟩ : ∃ m, k = m + 1 := ⟨k - 1, by omega⟩
  have hp : Pl.pt l u = if u < 0 then (0, false) else if u ≥ (l.length : Int) then (0, false) else if rd l u < 0 then (0, false) else if rd l u ≥ (l.length : Int) then (0, false) else
    if rd l u = u then (0, false) else if rd l (rd l u) = u then (rd l u, true) else (0, false) := rfl
  rw [hp]
  unfold swap_Partner.f
  by_cases h1 : u < 0
  · rw [if_pos h1, if_pos h1]; simp only [swap_Partner.j0]; rw [if_pos True.intro]
  rw [if_neg h1, if_neg h1]
  simp only [swap_Partner.j0]
  by_cases h2 : u ≥ (l.length : Int)
  · rw [decide_eq_true h2, if_pos rfl, if_pos h2]
  rw [decide_eq_false h2, if_neg (by decide), if_pos (by omega), if_pos (by omega), if_neg h2]
  by_cases h3 : rd l u < 0
  · rw [if_pos h3, if_pos h3]
  rw [if_neg h3, if_neg h3]
  by_cases h4 : rd l u ≥ (l.length : Int)
  · rw [if_pos h4, if_pos h4]
  rw [if_neg h4, if_neg h4]
  by_cases h5 : rd l u = u
  · rw [if_pos h5, if_pos h5]
  rw [if_neg h5, if_neg h5, if_pos (by omega), if_pos (by omega)]
  split <;> rfl

theorem wrap_succ {i n : Int} (h0 : 0 ≤ i) (h1 : i ≤ n) (hn : n ≤ 1000) : wrap64 (i + 1) = i + 1 := by
  unfold wrap64; omega

theorem pattern_l (l : List Int) (hn : l.length ≤ 40) (d : Nat) : ∀ k i, i + d = l.length → d + 2 ≤ k →
    swap_Pattern.l0 k l (Pl.oneN l i : Nat) (Pl.twoN l i : Nat) (l.length : Nat) (i : Nat) = some (((Pl.oneN l l.length : Nat) : Int), ((Pl.twoN l l.length : Nat) : Int)) := by
  induction d with
  | zero =>
    intro k i hi hk
    obtain ⟨k, rfl⟩ : ∃ m, k = m + 1 := ⟨k - 1, by omega⟩
    obtain rfl : i = l.length := by omega
    simp only [swap_Pattern.l0]
    rw [if_neg (by omega)]
  | succ d ih =>
    intro k i hi hk
    obtain ⟨k, rfl⟩ : ∃ m, k = m + 1 := ⟨k - 1, by omega⟩
    simp only [swap_Pattern.l0]
    rw [if_pos (by omega), partner_f k l i (by omega)]
    simp only [Option.bind_some]
    have e1 : wrap64 ((i : Int) + 1) = ((i + 1 : Nat) : Int) := wrap_succ (n := 40) (by omega) (by omega) (by omega)
    have o1 := Pl.one_ok l i
    have t1 := Pl.two_le l i
    have g := ih k (i + 1) (by omega) (by omega)
    have eo : Pl.oneN l (i + 1) = Pl.oneN l i + if (Pl.pt l (i : Int)).2 = true then 0 else 1 := rfl
    have et : Pl.twoN l (i + 1) = Pl.twoN l i + if (Pl.pt l (i : Int)).2 = true ∧ (i : Int) < (Pl.pt l (i : Int)).1 then 1 else 0 := rfl
    by_cases h : (Pl.pt l (i : Int)).2 = true
    · rw [if_pos h] at eo
      by_cases h' : (i : Int) < (Pl.pt l (i : Int)).1
      · rw [if_pos ⟨h, h'⟩] at et
        rw [if_pos h, if_pos h', e1, wrap_succ (n := 40) (by omega) (by omega) (by omega), ← g, eo, et]; rfl
      · rw [if_neg (fun x => h' x.2)] at et
        rw [if_pos h, if_neg h', e1, ← g, eo, et]; rfl
    · rw [if_neg h] at eo
      rw [if_neg (fun x => h x.1)] at et
      rw [if_neg h, e1, wrap_succ (n := 40) (by omega) (by omega) (by omega), ← g, eo, et]; rfl

theorem pattern_f (l : List Int) (hn : l.length ≤ 40) (k : Nat) (hk : 42 ≤ k) : swap_Pattern.f k l = some (((Pl.oneN l l.length : Nat) : Int), ((Pl.twoN l l.length : Nat) : Int)) :=
  pattern_l l hn l.length k 0 (by omega) (by omega)

theorem wakes_10 : billetlaw26_wakes.f 10 = some true := by decide +kernel
theorem wakes_f (k : Nat) (hk : 10 ≤ k) : billetlaw26_wakes.f k = some true := at_rounds billetlaw26_wakes.mono hk wakes_10

theorem getD_set_eq {α : Type} (xs : List α) (i : Nat) (v z : α) (h : i < xs.length) : (xs.set i v).getD i z = v := by
  rw [List.getD_eq_getElem?_getD, List.getElem?_set_self h]; rfl
theorem getD_set_ne {α : Type} (xs : List α) (i j : Nat) (v z : α) (h : j ≠ i) : (xs.set i v).getD j z = xs.getD j z := by
  rw [List.getD_eq_getElem?_getD, List.getElem?_set_ne (fun x => h x.symm), List.getD_eq_getElem?_getD]
theorem getD_append_left {α : Type} (xs ys : List α) (j : Nat) (z : α) (h : j < xs.length) : (xs ++ ys).getD j z = xs.getD j z := by
  rw [List.getD_eq_getElem?_getD, List.getElem?_append_left h, List.getD_eq_getElem?_getD]
theorem getD_append_at {α : Type} (xs : List α) (v z : α) : (xs ++ [v]).getD xs.length z = v := by
  rw [List.getD_eq_getElem?_getD, List.getElem?_append_right (Nat.le_refl _)]; simp
theorem getD_replicate {α : Type} (n j : Nat) (z : α) : (List.replicate n z).getD j z = z := by
  rw [List.getD_eq_getElem?_getD, List.getElem?_replicate]; split <;> rfl

/-- What a user is told. -/
def outOf (l : List Int) (ts : List ByteArray) (u : Nat) : S51 :=
  ⟨(Pl.pt l (u : Int)).2, if (Pl.pt l (u : Int)).2 = true ∧ (Pl.pt l (u : Int)).1 < (ts.length : Int) then ts.getD (Pl.pt l (u : Int)).1.toNat ByteArray.empty else (⟨#[]⟩ : ByteArray)⟩

theorem out_l (l : List Int) (ts : List ByteArray) (hn : l.length ≤ 40) (d : Nat) : ∀ (k i : Nat) (xs : List S51), i + d = l.length → d + 2 ≤ k → xs.length = l.length →
    (∀ j, j < i → xs.getD j z51 = outOf l ts j) → (∀ j, i ≤ j → xs.getD j z51 = z51) →
    ∃ r, swap_Out.l0 k l ts xs (l.length : Nat) (i : Nat) = some r ∧ r.length = l.length ∧ ∀ j, j < l.length → r.getD j z51 = outOf l ts j := by
  induction d with
  | zero =>
    intro k i xs hi hk hl h1 h2
    obtain ⟨k, rfl⟩ : ∃ m, k = m + 1 := ⟨k - 1, by omega⟩
    obtain rfl : i = l.length := by omega
    exact ⟨xs, by simp only [swap_Out.l0]; rw [if_neg (by omega)], hl, h1⟩
  | succ d ih =>
    intro k i xs hi hk hl h1 h2
    obtain ⟨k, rfl⟩ : ∃ m, k = m + 1 := ⟨k - 1, by omega⟩
    simp only [swap_Out.l0]
    rw [if_pos (by omega), partner_f k l i (by omega)]
    simp only [Option.bind_some]
    rw [if_pos (by omega), if_pos (by omega)]
    have e1 : wrap64 ((i : Int) + 1) = ((i + 1 : Nat) : Int) := wrap_succ (n := 40) (by omega) (by omega) (by omega)
    have hz : rd_T51 xs (i : Int) = z51 := h2 i (Nat.le_refl _)
    rw [e1, hz]
    have key : ∀ ys : List S51, ys.length = l.length → ys.getD i z51 = outOf l ts i → (∀ j, j ≠ i → ys.getD j z51 = xs.getD j z51) →
        ∃ r, swap_Out.l0 k l ts ys (l.length : Nat) ((i + 1 : Nat) : Int) = some r ∧ r.length = l.length ∧ ∀ j, j < l.length → r.getD j z51 = outOf l ts j := by
      intro ys y1 y2 y3
      refine ih k (i + 1) ys (by omega) (by omega) y1 ?_ ?_
      · intro j hj
        by_cases e : j = i
        · rw [e, y2]
        · rw [y3 j e, h1 j (by omega)]
      · intro j hj
        rw [y3 j (by omega), h2 j (by omega)]
    by_cases ho : (Pl.pt l (i : Int)).2 = true
    · rw [if_pos ho]
      obtain ⟨_, _, p0, p1, _, _, _⟩ := Pl.rel_of_ok ho
      by_cases hp : (Pl.pt l (i : Int)).1 < (ts.length : Int)
      · rw [if_pos hp, if_pos p0]
        refine key _ (by simp [hl]) ?_ ?_
        · rw [Int.toNat_natCast, getD_set_eq _ _ _ _ (by rw [List.length_set]; omega)]
          have e2 : rd_T51 (xs.set i (⟨(Pl.pt l (i : Int)).2, z51.f1⟩ : S51)) (i : Int) = ⟨(Pl.pt l (i : Int)).2, z51.f1⟩ := getD_set_eq _ _ _ _ (by omega)
          rw [e2]
          unfold outOf rdOf
          rw [if_pos ⟨ho, hp⟩]
        · intro j hj
          rw [Int.toNat_natCast, getD_set_ne _ _ _ _ _ hj, getD_set_ne _ _ _ _ _ hj]
      · rw [if_neg hp]
        refine key _ (by simp [hl]) ?_ ?_
        · rw [Int.toNat_natCast, getD_set_eq _ _ _ _ (by omega)]
          unfold outOf
          rw [if_neg (fun x => hp x.2)]
          rfl
        · intro j hj
          rw [Int.toNat_natCast, getD_set_ne _ _ _ _ _ hj]
    · rw [if_neg ho]
      refine key _ (by simp [hl]) ?_ ?_
      · rw [Int.toNat_natCast, getD_set_eq _ _ _ _ (by omega)]
        unfold outOf
        rw [if_neg (fun x => ho x.1)]
        rfl
      · intro j hj
        rw [Int.toNat_natCast, getD_set_ne _ _ _ _ _ hj]

theorem out_f (l : List Int) (ts : List ByteArray) (hn : l.length ≤ 40) (k : Nat) (hk : 42 ≤ k) :
    ∃ r, swap_Out.f k l ts = some r ∧ r.length = l.length ∧ ∀ j, j < l.length → r.getD j z51 = outOf l ts j := by
  unfold swap_Out.f
  rw [if_pos (by omega), if_pos (by omega)]
  exact out_l l ts hn l.length k 0 _ (by omega) (by omega) (by simp) (fun j hj => by omega) (fun j _ => getD_replicate _ _ _)

theorem twice_ (l : List Int) (hn : l.length ≤ 40) : wrap64 (2 * ((Pl.twoN l l.length : Nat) : Int)) = ((Pl.okN l l.length : Nat) : Int) ∧ wrap64 (((Pl.oneN l l.length : Nat) : Int) + ((Pl.okN l l.length : Nat) : Int)) = (l.length : Int) := by
  have a1 := Pl.one_ok l l.length
  have b1 := Pl.ok_two l
  generalize Pl.oneN l l.length = o at *
  generalize Pl.okN l l.length = k at *
  generalize Pl.twoN l l.length = t at *
  constructor
  · unfold wrap64; omega
  · unfold wrap64; omega

theorem turns_2 (l : List Int) (x3 x6 : List ByteArray) (x5 x13 : List S51) (hn : l.length ≤ 40) (h3 : x3.length = l.length) (h6 : x6.length = l.length) (h5 : x5.length = l.length) (h13 : x13.length = l.length)
    (g5 : ∀ j, j < l.length → x5.getD j z51 = outOf l x3 j) (g6 : ∀ j, j < l.length → x6.getD j ByteArray.empty = (outOf l x3 j).f1) (g13 : ∀ j, j < l.length → x13.getD j z51 = outOf l x6 j)
    (K : Int) (hK : ∀ k, 42 ≤ k → ∃ o t : Int, swap_Pattern.f k l = some (o, t) ∧ wrap64 (2 * t) = K ∧ wrap64 (o + K) = (l.length : Int)) (d : Nat) :
    ∀ (k i : Nat), i + d = l.length → d + 60 ≤ k → billetlaw26_SwapTurns.l2 k l x3 x5 K x13 (i : Nat) = some true := by
  induction d with
  | zero =>
    intro k i hi hk
    obtain ⟨k, rfl⟩ : ∃ m, k = m + 1 := ⟨k - 1, by omega⟩
    obtain rfl : i = l.length := by omega
    simp only [billetlaw26_SwapTurns.l2]
    obtain ⟨o, t, hp, w1, w2⟩ := hK k (by omega)
    rw [if_neg (by omega), hp]
    simp only [Option.bind_some]
    rw [w1, w2, if_pos rfl, if_pos rfl, wakes_f k (by omega)]; rfl
  | succ d ih =>
    intro k i hi hk
    obtain ⟨k, rfl⟩ : ∃ m, k = m + 1 := ⟨k - 1, by omega⟩
    simp only [billetlaw26_SwapTurns.l2]
    rw [if_pos (by omega), if_pos (by omega), if_pos (by omega)]
    have e1 : wrap64 ((i : Int) + 1) = ((i + 1 : Nat) : Int) := wrap_succ (n := 40) (by omega) (by omega) (by omega)
    have q5 : rd_T51 x5 (i : Int) = outOf l x3 i := g5 i (by omega)
    have q13 : rd_T51 x13 (i : Int) = outOf l x6 i := g13 i (by omega)
    rw [e1, q5, q13, ih k (i + 1) (by omega) (by omega)]
    by_cases ho : (Pl.pt l (i : Int)).2 = true
    · have r := Pl.rel_of_ok ho
      obtain ⟨_, _, p0, p1, _, _, _⟩ := Pl.rel_of_ok ho
      rw [if_pos (show (outOf l x3 i).f0 = true from ho), if_pos (by omega), if_pos]
      have e2 : (outOf l x6 i).f1 = x6.getD (Pl.pt l (i : Int)).1.toNat ByteArray.empty := by
        unfold outOf
        rw [if_pos ⟨ho, by omega⟩]
      rw [e2, g6 _ (by omega)]
      unfold outOf rdOf
      rw [Int.toNat_of_nonneg p0, Pl.pt_of_rel r.symm, if_pos ⟨rfl, by omega⟩]
    · rw [if_neg (show ¬ (outOf l x3 i).f0 = true from ho)]

theorem turns_1 (l : List Int) (x3 : List ByteArray) (x5 : List S51) (hn : l.length ≤ 40) (h3 : x3.length = l.length) (h5 : x5.length = l.length)
    (g5 : ∀ j, j < l.length → x5.getD j z51 = outOf l x3 j) (d : Nat) :
    ∀ (k i : Nat) (x6 : List ByteArray), i + d = l.length → d + 120 ≤ k → x6.length = i → (∀ j, j < i → x6.getD j ByteArray.empty = (outOf l x3 j).f1) →
      billetlaw26_SwapTurns.l1 k l x3 x5 x6 (Pl.okN l i : Nat) (i : Nat) = some true := by
  induction d with
  | zero =>
    intro k i x6 hi hk h6 g6
    obtain ⟨k, rfl⟩ : ∃ m, k = m + 1 := ⟨k - 1, by omega⟩
    obtain rfl : i = l.length := by omega
    simp only [billetlaw26_SwapTurns.l1]
    obtain ⟨m, hm, hml, hmg⟩ := out_f l x6 hn k (by omega)
    rw [if_neg (by omega), hm]
    simp only [Option.bind_some]
    rw [if_pos (by omega)]
    exact turns_2 l x3 x6 x5 m hn h3 h6 h5 hml g5 g6 hmg _ (fun k hk => ⟨_, _, pattern_f l hn k hk, twice_ l hn⟩) l.length k 0 (by omega) (by omega)
  | succ d ih =>
    intro k i x6 hi hk h6 g6
    obtain ⟨k, rfl⟩ : ∃ m, k = m + 1 := ⟨k - 1, by omega⟩
    simp only [billetlaw26_SwapTurns.l1]
    have e1 : wrap64 ((i : Int) + 1) = ((i + 1 : Nat) : Int) := wrap_succ (n := 40) (by omega) (by omega) (by omega)
    have q5 : rd_T51 x5 (i : Int) = outOf l x3 i := g5 i (by omega)
    rw [if_pos (by omega), if_pos (by omega), if_pos (by omega), partner_f k l i (by omega), e1, q5]
    simp only [Option.bind_some]
    have a1 := Pl.one_ok l i
    have eo : Pl.okN l (i + 1) = Pl.okN l i + if (Pl.pt l (i : Int)).2 = true then 1 else 0 := rfl
    have g := ih k (i + 1) (x6 ++ [(outOf l x3 i).f1]) (by omega) (by omega) (by simp [h6]) (by
      intro j hj
      by_cases e : j = i
      · subst e; subst h6; exact getD_append_at _ _ _
      · rw [getD_append_left _ _ _ _ (by omega)]; exact g6 j (by omega))
    have f0 : (outOf l x3 i).f0 = (Pl.pt l (i : Int)).2 := rfl
    rw [f0, if_neg (by simp)]
    by_cases ho : (Pl.pt l (i : Int)).2 = true
    · have r := Pl.rel_of_ok ho
      obtain ⟨_, _, p0, p1, p2, _, _⟩ := Pl.rel_of_ok ho
      rw [if_pos ho, partner_f k l _ (by omega), Pl.pt_of_rel r.symm]
      simp only [Option.bind_some]
      rw [if_pos True.intro, if_pos True.intro, if_neg p2, if_neg (by omega), if_neg (by omega), if_pos p0, if_pos (by omega), if_pos]
      · rw [if_pos ho] at eo
        rw [wrap_succ (n := 40) (by omega) (by omega) (by omega), ← g, eo]; rfl
      · unfold outOf rdOf
        rw [if_pos ⟨ho, by omega⟩]
    · rw [if_neg ho] at eo
      rw [if_neg ho, if_pos]
      · rw [← g, eo]; rfl
      · unfold outOf
        rw [if_neg (fun x => ho x.1)]
        show (⟨#[]⟩ : ByteArray).toList = []
        decide +kernel

theorem turns_0 (l : List Int) (hn : l.length ≤ 40) (d : Nat) :
    ∀ (k i : Nat) (x3 : List ByteArray), i + d = l.length → d + 200 ≤ k → x3.length = i → billetlaw26_SwapTurns.l0 k l x3 (i : Nat) = some true := by
  induction d with
  | zero =>
    intro k i x3 hi hk h3
    obtain ⟨k, rfl⟩ : ∃ m, k = m + 1 := ⟨k - 1, by omega⟩
    obtain rfl : i = l.length := by omega
    simp only [billetlaw26_SwapTurns.l0]
    obtain ⟨m, hm, hml, hmg⟩ := out_f l x3 hn k (by omega)
    rw [if_neg (by omega), hm]
    simp only [Option.bind_some]
    rw [if_pos (by omega)]
    exact turns_1 l x3 m hn h3 hml hmg l.length k 0 [] (by omega) (by omega) rfl (fun j hj => by omega)
  | succ d ih =>
    intro k i x3 hi hk h3
    obtain ⟨k, rfl⟩ : ∃ m, k = m + 1 := ⟨k - 1, by omega⟩
    simp only [billetlaw26_SwapTurns.l0]
    rw [if_pos (by omega), if_pos (by omega), wrap_succ (n := 40) (by omega) (by omega) (by omega)]
    exact ih k (i + 1) _ (by omega) (by omega) (by simp [h3])

end SwapTurnsL
open SwapTurnsL
theorem SwapTurns : billetlaw26_SwapTurns.Pure := by
  intro l _ _ _
  refine ⟨300, ?_⟩
  unfold billetlaw26_SwapTurns.f
  by_cases h1 : (l.length : Int) > 40
  · rw [if_pos h1, wakes_f _ (by omega)]; rfl
  rw [if_neg h1]
  exact turns_0 l (by omega) l.length 300 0 [] (by omega) (by omega) rfl

end Go.Proofs.Ytbaljleimiflmaa.Pure
