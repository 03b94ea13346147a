/-
  The walks of ClockOver and ClockEnds: each answers true of every input and touches nothing elder. Conditions: the inputs are of their kinds.
-/
import Derived.Test.YtbaljleimiflmaaClkSt
namespace Go.Proofs.Ytbaljleimiflmaa.Clk
open Go.RowKit

section
variable (w : World)
theorem pass_nil : Calls Try.prog 15 #[.pointer none] w fun e w' => e = .returned (.tuple #[]) ∧ w = w' := by
  go_enter Try.func15, Try.ntmps15
  go_wp2
  go_end0
  exact ⟨rfl, rfl⟩
theorem wait_nil (t : Int) : Calls Try.prog 17 #[.pointer none, .int .i64 t] w fun e w' => e = .returned (.tuple #[]) ∧ w = w' := by
  go_enter Try.func17, Try.ntmps17
  go_wp2
  go_end0
  exact ⟨rfl, rfl⟩
theorem rest_nil : Calls Try.prog 19 #[.pointer none] w fun e w' => e = .returned (.tuple #[]) ∧ w = w' := by
  go_enter Try.func19, Try.ntmps19
  go_wp2
  go_end0
  exact ⟨rfl, rfl⟩
theorem now_nil : Calls Try.prog 21 #[.pointer none] w fun e w' => e = .returned (.int .i64 0) ∧ w = w' := by
  go_enter Try.func21, Try.ntmps21
  go_wp2
  go_ret
  exact ⟨rfl, rfl⟩
theorem waits_nil : Calls Try.prog 22 #[.pointer none] w fun e w' => e = .returned (.bool false) ∧ w' = w := by
  go_enter Try.func22, Try.ntmps22
  go_wp2
  go_ret
  exact ⟨rfl, rfl⟩
theorem over_nil : Calls Try.prog 23 #[.pointer none] w fun e w' => e = .returned (.bool false) ∧ ∃ k, w' = w.drewN k := by
  go_enter Try.func23, Try.ntmps23
  go_wp2
  go_quiet ((go_at_call 22; exact Calls.quiet_of_same (waits_nil _)))
  go_wp2
  go_ret
  exact ⟨rfl, _, rfl⟩
end

set_option maxHeartbeats 400000 in
theorem clockOver_any (a t x : Int) (ha : 0 ≤ a ∧ a ≤ 255) (ht : 0 ≤ t ∧ t ≤ 255) (w : World) :
    Calls Try.prog 4 #[.int .u8 a, .int .u8 t, .int .i64 x] w fun e w' => e = .returned (.bool true) ∧ Below w.heap.size w w' := by
  obtain ⟨a, rfl⟩ := Int.eq_ofNat_of_zero_le ha.1
  obtain ⟨t, rfl⟩ := Int.eq_ofNat_of_zero_le ht.1
  have ha2 : a ≤ 255 := by omega
  have ht2 : t ≤ 255 := by omega
  have hx := clamp_bd x
  have ct : clamp (t : Int) = (t : Int) := by unfold clamp; rw [if_neg (by omega), if_neg (by omega)]
  have CT := Lib.hid ct
  clear ct
  clear ha ht
  go_enter Try.func4, Try.ntmps4
  go_wp2_with fail
  go_loopw [8] (fun i wr => ∃ k : Nat, k ≤ a ∧ i = .int .i64 k ∧ St w.heap.size w w.heap.size k 0 false wr) (fun i _ => a - (intOf i).toNat)
  case atStart => exact ⟨0, Nat.zero_le _, rfl, St.new w⟩
  case round =>
    obtain ⟨k, hk, rfl, hs⟩ := hrel
    by_cases hlt : k < a
    · go_wp2_with (go_at_call 15; refine (pass_st hs ((k + 1 : Nat) : Int) (by unfold wrap64; omega)).mono ?_; rintro e w2 ⟨rfl, hs2⟩)
      go_roundw
      case rel => exact ⟨k + 1, by omega, by go_num, hs2⟩
      case measure => simp [intOf]; omega
    · obtain rfl : k = a := by omega
      clear hlt hk
      go_wp2_with fail
      refine (wait_st hs x (k + clamp x) (by unfold wrap64; omega)).mono ?_; rintro e w2 ⟨rfl, hs2⟩
      clear hs
      go_wp2_with fail
      refine (wait_st hs2 t (k + t) (by rw [CT.out]; unfold wrap64; omega)).mono ?_; rintro e w3 ⟨rfl, hs3⟩
      clear hs2
      go_wp2_with fail
      go_loopw [9] (fun i wr => ∃ j : Nat, j ≤ t ∧ i = .int .i64 j ∧ St w.heap.size w w.heap.size ((k + j : Nat) : Int) (k + t) true wr) (fun i _ => t - (intOf i).toNat)
      case atStart => exact ⟨0, Nat.zero_le _, rfl, hs3⟩
      case round =>
        obtain ⟨j, hj, rfl, hr⟩ := hrel
        by_cases hlt : j < t
        · go_wp2_with fail
          refine (over_st hr false (by simp; omega)).mono ?_; rintro e w4 ⟨rfl, hr2⟩
          go_wp2_with fail
          refine (waits_st hr2).mono ?_; rintro e w5 ⟨rfl, hr3⟩
          clear hr2
          go_wp2_with fail
          refine (pass_st hr3 ((k + (j + 1) : Nat) : Int) (by unfold wrap64; omega)).mono ?_; rintro e w6 ⟨rfl, hr4⟩
          clear hr3
          go_wp2_with fail
          go_roundw
          case rel => exact ⟨j + 1, by omega, by go_num, hr4⟩
          case measure => simp [intOf]; omega
        · obtain rfl : j = t := by omega
          clear hlt hj
          go_wp2_with fail
          refine (over_st hr true (by simp)).mono ?_; rintro e w4 ⟨rfl, hr2⟩
          clear hr
          go_wp2_with fail
          refine (pass_st hr2 (((k + j : Nat) : Int) + 1) (by unfold wrap64; omega)).mono ?_; rintro e w5 ⟨rfl, hr3⟩
          clear hr2
          go_wp2_with fail
          refine (over_st hr3 true (by simp; omega)).mono ?_; rintro e w6 ⟨rfl, hr4⟩
          clear hr3
          go_wp2_with fail
          refine (now_st hr4).mono ?_; rintro e w7 ⟨rfl, hr5⟩
          clear hr4
          go_wp2_with fail
          refine (wakes_any _).mono ?_; rintro e w8 ⟨rfl, hb⟩
          go_wp2_with fail
          go_ret
          exact ⟨rfl, hr5.2.1.trans (hb.mono (by have := hr5.1.lt; omega))⟩

end Go.Proofs.Ytbaljleimiflmaa.Clk
