/-
  The plain law of SwapNear: of any choices, any user, any other choice: the ones differ by two at most, the pairs by one. No condition but the sizes that the statement bears.
-/
import Derived.Test.YtbaljleimiflmaaQSwapNearx3
import Derived.Test.YtbaljleimiflmaaPl
namespace Go.Proofs.Ytbaljleimiflmaa.Pure
open Go.RowKit Go.Proofs.Ytbaljleimiflmaa.PSwapNear Go.Proofs.YtbaljleimiflmaaW.PrintWords Go.Proofs.YtbaljleimiflmaaW.PrintLast
namespace SwapNearL

theorem partner_f (k : Nat) (l : List Int) (u : Int) (hk : 1 ≤ k) : swap_Partner.f k l u = some (Pl.pt l u) := by
  obtain ⟨k, rfl⟩ : ∃ m, k = m + 1 := ⟨k - 1, by omega⟩
  have hp : Pl.pt l u = if u < 0 then (0, false) else if u ≥ (l.length : Int) then (0, false) else if rd l u < 0 then (0, false) else if rd l u ≥ (l.length : Int) then (0, false) else
    if rd l u = u then (0, false) else if rd l (rd l u) = u then (rd l u, true) else (0, false) := rfl
  rw [hp]
  unfold swap_Partner.f
  by_cases h1 : u < 0
  · rw [if_pos h1, if_pos h1]; simp only [swap_Partner.j0]; rw [if_pos True.intro]
  rw [if_neg h1, if_neg h1]
  simp only [swap_Partner.j0]
  by_cases h2 : u ≥ (l.length : Int)
  · rw [decide_eq_true h2, if_pos rfl, if_pos h2]
  rw [decide_eq_false h2, if_neg (by decide), if_pos (by omega), if_pos (by omega), if_neg h2]
  by_cases h3 : rd l u < 0
  · rw [if_pos h3, if_pos h3]
  rw [if_neg h3, if_neg h3]
  by_cases h4 : rd l u ≥ (l.length : Int)
  · rw [if_pos h4, if_pos h4]
  rw [if_neg h4, if_neg h4]
  by_cases h5 : rd l u = u
  · rw [if_pos h5, if_pos h5]
  rw [if_neg h5, if_neg h5, if_pos (by omega), if_pos (by omega)]
  split <;> rfl

theorem wrap_succ {i n : Int} (h0 : 0 ≤ i) (h1 : i ≤ n) (hn : n ≤ 1000) : wrap64 (i + 1) = i + 1 := by
  unfold wrap64; omega

theorem pattern_l (l : List Int) (hn : l.length ≤ 40) (d : Nat) : ∀ k i, i + d = l.length → d + 2 ≤ k →
    swap_Pattern.l0 k l (Pl.oneN l i : Nat) (Pl.twoN l i : Nat) (l.length : Nat) (i : Nat) = some (((Pl.oneN l l.length : Nat) : Int), ((Pl.twoN l l.length : Nat) : Int)) := by
  induction d with
  | zero =>
    intro k i hi hk
    obtain ⟨k, rfl⟩ : ∃ m, k = m + 1 := ⟨k - 1, by omega⟩
    obtain rfl : i = l.length := by omega
    simp only [swap_Pattern.l0]
    rw [if_neg (by omega)]
  | succ d ih =>
    intro k i hi hk
    obtain ⟨k, rfl⟩ : ∃ m, k = m + 1 := ⟨k - 1, by omega⟩
    simp only [swap_Pattern.l0]
    rw [if_pos (by omega), partner_f k l i (by omega)]
    simp only [Option.bind_some]
    have e1 : wrap64 ((i : Int) + 1) = ((i + 1 : Nat) : Int) := wrap_succ (n := 40) (by omega) (by omega) (by omega)
    have o1 := Pl.one_ok l i
    have t1 := Pl.two_le l i
    have g := ih k (i + 1) (by omega) (by omega)
    have eo : Pl.oneN l (i + 1) = Pl.oneN l i + if (Pl.pt l (i : Int)).2 = true then 0 else 1 := rfl
    have et : Pl.twoN l (i + 1) = Pl.twoN l i + if (Pl.pt l (i : Int)).2 = true ∧ (i : Int) < (Pl.pt l (i : Int)).1 then 1 else 0 := rfl
    by_cases h : (Pl.pt l (i : Int)).2 = true
    · rw [if_pos h] at eo
      by_cases h' : (i : Int) < (Pl.pt l (i : Int)).1
      · rw [if_pos ⟨h, h'⟩] at et
        rw [if_pos h, if_pos h', e1, wrap_succ (n := 40) (by omega) (by omega) (by omega), ← g, eo, et]; rfl
      · rw [if_neg (fun x => h' x.2)] at et
        rw [if_pos h, if_neg h', e1, ← g, eo, et]; rfl
    · rw [if_neg h] at eo
      rw [if_neg (fun x => h x.1)] at et
      rw [if_neg h, e1, wrap_succ (n := 40) (by omega) (by omega) (by omega), ← g, eo, et]; rfl

theorem pattern_f (l : List Int) (hn : l.length ≤ 40) (k : Nat) (hk : 42 ≤ k) : swap_Pattern.f k l = some (((Pl.oneN l l.length : Nat) : Int), ((Pl.twoN l l.length : Nat) : Int)) :=
  pattern_l l hn l.length k 0 (by omega) (by omega)

theorem wakes_10 : billetlaw26_wakes.f 10 = some true := by decide +kernel
theorem wakes_f (k : Nat) (hk : 10 ≤ k) : billetlaw26_wakes.f k = some true := at_rounds billetlaw26_wakes.mono hk wakes_10

end SwapNearL
open SwapNearL
theorem SwapNear : billetlaw26_SwapNear.Pure := by
  intro l a b _ _ _ ha _
  have ha' : 0 ≤ a ∧ a < 256 := by
    simp [Lit.wf, IntKind.min, IntKind.max, IntKind.signed, IntKind.bits] at ha
    omega
  refine ⟨60, ?_⟩
  unfold billetlaw26_SwapNear.f
  by_cases h1 : (l.length : Int) > 40
  · rw [if_pos h1]
    simp only [billetlaw26_SwapNear.j0]
    rw [if_pos True.intro, wakes_f _ (by omega)]; rfl
  rw [if_neg h1]
  simp only [billetlaw26_SwapNear.j0]
  by_cases h2 : (l.length : Int) = 0
  · rw [beq_iff_eq.2 h2, if_pos rfl, wakes_f _ (by omega)]; rfl
  rw [beq_eq_false_iff_ne.2 h2, if_neg (by decide)]
  simp only [Option.bind_some, List.nil_append, List.length_nil]
  rw [if_pos (by omega), if_neg h2]
  have hw : wrap64 a = a := by unfold wrap64; omega
  rw [hw]
  have hm : 0 ≤ Int.tmod a (l.length : Int) := Int.tmod_nonneg _ ha'.1
  have hm2 := Int.tmod_lt_of_pos a (by omega : (0 : Int) < (l.length : Int))
  generalize Int.tmod a (l.length : Int) = j at *
  rw [if_pos hm, if_pos hm2, pattern_f l (by omega) _ (by omega), pattern_f (l.set j.toNat b) (by rw [List.length_set]; omega) _ (by omega)]
  simp only [Option.bind_some, List.length_set]
  have hs : ∀ i, i ≠ j.toNat → l.getD i 0 = (l.set j.toNat b).getD i 0 := by
    intro i hi
    simp only [List.getD_eq_getElem?_getD]
    rw [List.getElem?_set_ne (fun x => hi x.symm)]
  have n1 := Pl.ok_near l (l.set j.toNat b) j.toNat (by rw [List.length_set]) hs
  have n2 := Pl.ok_near (l.set j.toNat b) l j.toNat (by rw [List.length_set]) (fun i hi => (hs i hi).symm)
  have a1 := Pl.one_ok l l.length
  have a2 := Pl.one_ok (l.set j.toNat b) (l.set j.toNat b).length
  have b1 := Pl.ok_two l
  have b2 := Pl.ok_two (l.set j.toNat b)
  rw [List.length_set] at n1 n2 a2 b2
  generalize Pl.oneN l l.length = o1 at *
  generalize Pl.oneN (l.set j.toNat b) l.length = o2 at *
  generalize Pl.okN l l.length = k1 at *
  generalize Pl.okN (l.set j.toNat b) l.length = k2 at *
  generalize Pl.twoN l l.length = t1 at *
  generalize Pl.twoN (l.set j.toNat b) l.length = t2 at *
  have w1 : wrap64 ((o1 : Int) - (o2 : Int)) = (o1 : Int) - (o2 : Int) := by unfold wrap64; omega
  have w2 : wrap64 ((o2 : Int) - (o1 : Int)) = (o2 : Int) - (o1 : Int) := by unfold wrap64; omega
  have w3 : wrap64 ((t1 : Int) - (t2 : Int)) = (t1 : Int) - (t2 : Int) := by unfold wrap64; omega
  have w4 : wrap64 ((t2 : Int) - (t1 : Int)) = (t2 : Int) - (t1 : Int) := by unfold wrap64; omega
  rw [w1, w2, w3, w4, if_pos (by omega), if_pos (by omega), if_pos (by omega), if_pos (by omega), wakes_f _ (by omega)]
  rfl

end Go.Proofs.Ytbaljleimiflmaa.Pure
