/-
  The clock's functions over a state that a law keeps of them: the clock's block, and that nothing elder was touched; the law's small example. Conditions: the state.
-/
import Derived.Test.YtbaljleimiflmaaClk
namespace Go.Proofs.Ytbaljleimiflmaa.Clk
open Go.RowKit

/-- The clock at b holds this; below B all is as it was in w. -/
def St (B : Nat) (w : World) (b : Nat) (n u : Int) (f : Bool) (w1 : World) : Prop := Clk w1 b n u f ∧ Below B w w1 ∧ B ≤ b
def StTo (B : Nat) (w : World) (b : Nat) (n u : Int) (f : Bool) (v : Value) (e : Ending) (w1 : World) : Prop := e = .returned v ∧ St B w b n u f w1

theorem St.to {B : Nat} {w : World} {b : Nat} {n u : Int} {f : Bool} {w1 w2 : World} (h : St B w b n u f w1) {n' u' : Int} {f' : Bool} (hc : Clk w2 b n' u' f') (hg : w1.grownBy w2 (some b)) : St B w b n' u' f' w2 :=
  ⟨hc, below_grown h.2.1 hg h.2.2 (by have := h.1.lt; have := h.2.2; omega), h.2.2⟩
theorem St.drewN {B : Nat} {w : World} {b : Nat} {n u : Int} {f : Bool} {w1 : World} (h : St B w b n u f w1) (k : Nat) : St B w b n u f (w1.drewN k) := ⟨h.1, below_drewN h.2.1 k, h.2.2⟩
theorem St.new (w : World) : St w.heap.size w w.heap.size 0 0 false (w.alloc (.cells #[.int .i64 0, .int .i64 0, .bool false] 27)) := ⟨Blk.new _ _ _, (Below.refl _ _).alloc (Nat.le_refl _) _, Nat.le_refl _⟩

section
variable {B : Nat} {w : World} {b : Nat} {n u : Int} {f : Bool} {w1 : World}
theorem pass_st (h : St B w b n u f w1) (m : Int) (hm : m = wrap64 (n + 1)) : Calls Try.prog 15 #[.pointer (some ⟨b, 0, none⟩)] w1 (StTo B w b m u f (.tuple #[])) := by
  subst hm
  exact (pass_any w1 b n u f h.1).mono fun _ _ ⟨he, hc, hg⟩ => ⟨he, h.to hc hg⟩
theorem wait_st (h : St B w b n u f w1) (t m : Int) (hm : m = wrap64 (n + clamp t)) : Calls Try.prog 17 #[.pointer (some ⟨b, 0, none⟩), .int .i64 t] w1 (StTo B w b n m true (.tuple #[])) := by
  subst hm
  exact (wait_any w1 b n u t f h.1).mono fun _ _ ⟨he, hc, hg⟩ => ⟨he, h.to hc hg⟩
theorem rest_st (h : St B w b n u f w1) : Calls Try.prog 19 #[.pointer (some ⟨b, 0, none⟩)] w1 (StTo B w b n u false (.tuple #[])) :=
  (rest_any w1 b n u f h.1).mono fun _ _ ⟨he, hc, hg⟩ => ⟨he, h.to hc hg⟩
theorem now_st (h : St B w b n u f w1) : Calls Try.prog 21 #[.pointer (some ⟨b, 0, none⟩)] w1 (StTo B w b n u f (.int .i64 n)) :=
  (now_any w1 b n u f h.1).mono fun _ _ ⟨he, hw⟩ => ⟨he, by rw [hw]; exact h⟩
theorem waits_st (h : St B w b n u f w1) : Calls Try.prog 22 #[.pointer (some ⟨b, 0, none⟩)] w1 (StTo B w b n u f (.bool f)) :=
  (waits_any w1 b n u f h.1).mono fun _ _ ⟨he, hw⟩ => ⟨he, by rw [hw]; exact h⟩
theorem over_st (h : St B w b n u f w1) (o : Bool) (ho : (f && decide (u ≤ n)) = o) : Calls Try.prog 23 #[.pointer (some ⟨b, 0, none⟩)] w1 (StTo B w b n u f (.bool o)) :=
  (over_any w1 b n u f o h.1 (Lib.hid ho)).mono fun _ _ ⟨he, k, hw⟩ => ⟨he, by rw [hw]; exact h.drewN k⟩
end

theorem wakes_any (w : World) : Calls Try.prog 14 #[] w fun e w' => e = .returned (.bool true) ∧ Below w.heap.size w w' := by
  go_enter Try.func14, Try.ntmps14
  go_wp2_with fail
  refine (wait_st (St.new w) 2 2 (by decide +kernel)).mono ?_; rintro e w1 ⟨rfl, s1⟩
  go_wp2_with fail
  refine (pass_st s1 1 (by decide +kernel)).mono ?_; rintro e w2 ⟨rfl, s2⟩
  clear s1
  go_wp2_with fail
  refine (over_st s2 false (by decide +kernel)).mono ?_; rintro e w3 ⟨rfl, s3⟩
  clear s2
  go_wp2_with fail
  refine (pass_st s3 2 (by decide +kernel)).mono ?_; rintro e w4 ⟨rfl, s4⟩
  clear s3
  go_wp2_with fail
  refine (over_st s4 true (by decide +kernel)).mono ?_; rintro e w5 ⟨rfl, s5⟩
  clear s4
  go_wp2_with fail
  refine (rest_st s5).mono ?_; rintro e w6 ⟨rfl, s6⟩
  clear s5
  go_wp2_with fail
  refine (over_st s6 false (by decide +kernel)).mono ?_; rintro e w7 ⟨rfl, s7⟩
  clear s6
  go_wp2_with fail
  refine (waits_st s7).mono ?_; rintro e w8 ⟨rfl, s8⟩
  clear s7
  go_wp2_with fail
  refine (now_st s8).mono ?_; rintro e w9 ⟨rfl, s9⟩
  clear s8
  go_wp2_with fail
  go_ret
  exact ⟨rfl, s9.2.1⟩

end Go.Proofs.Ytbaljleimiflmaa.Clk
