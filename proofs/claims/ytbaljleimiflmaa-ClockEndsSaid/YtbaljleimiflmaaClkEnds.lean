/-
  The walk of ClockEnds: it answers true of every number and touches nothing elder. Condition: the number is an int.
-/
import Derived.Test.YtbaljleimiflmaaClkOver
namespace Go.Proofs.Ytbaljleimiflmaa.Clk
open Go.RowKit

theorem ends_low (n : Int) (w : World) (h : n ≤ 0) : Calls Try.prog 5 #[.int .i64 n] w fun e w' => e = .returned (.bool true) ∧ Below w.heap.size w w' := by
  have cn : clamp n = 0 := by
    unfold clamp
    split
    · rfl
    · rw [if_neg (by omega)]; omega
  have CN := Lib.hid cn
  clear cn
  go_enter Try.func5, Try.ntmps5
  go_wp2_with fail
  refine (wait_st (St.new w) n 0 (by rw [CN.out]; decide +kernel)).mono ?_; rintro e w1 ⟨rfl, s1⟩
  clear CN
  go_wp2_with fail
  refine (over_st s1 true (by decide)).mono ?_; rintro e w2 ⟨rfl, s2⟩
  clear s1
  go_wp2_with fail
  refine (wakes_any _).mono ?_; rintro e w8 ⟨rfl, hb⟩
  go_wp2_with fail
  go_ret
  exact ⟨rfl, s2.2.1.trans (hb.mono (by have := s2.1.lt; omega))⟩

set_option maxHeartbeats 400000 in
set_option maxRecDepth 100000 in
theorem ends_high (n m : Int) (w : World) (h : 0 < n) (hm : clamp n = m) (h1 : 1 ≤ m) (h2 : m ≤ 1000) (o : Bool) (ho : decide (m ≤ 999) = o) (hn : decide (n < 1000) = o) :
    Calls Try.prog 5 #[.int .i64 n] w fun e w' => e = .returned (.bool true) ∧ Below w.heap.size w w' := by
  have CN := Lib.hid hm
  clear hm
  have HO := Lib.hid ho
  clear ho
  go_enter Try.func5, Try.ntmps5
  go_wp2_with fail
  refine (wait_st (St.new w) n m (by rw [CN.out]; unfold wrap64; omega)).mono ?_; rintro e w1 ⟨rfl, s1⟩
  clear CN
  go_wp2_with fail
  go_loopw [4] (fun i wr => ∃ k : Nat, k ≤ 999 ∧ i = .int .i64 k ∧ St w.heap.size w w.heap.size k m true wr) (fun i _ => 999 - (intOf i).toNat)
  case atStart => exact ⟨0, Nat.zero_le _, rfl, s1⟩
  case round =>
    clear s1
    obtain ⟨k, hk, rfl, hs⟩ := hrel
    by_cases hlt : k < 999
    · go_wp2_with (go_at_call 15; refine (pass_st hs ((k + 1 : Nat) : Int) (by unfold wrap64; omega)).mono ?_; rintro e w2 ⟨rfl, hs2⟩)
      go_roundw
      case rel => exact ⟨k + 1, by omega, by go_num, hs2⟩
      case measure => simp [intOf]; omega
    · have hk9 : (k : Int) = 999 := by omega
      have HK := Lib.hid hk9
      clear hk9
      go_wp2_with fail
      refine (over_st hs o (by rw [← HO.out, HK.out]; simp)).mono ?_; rintro e w2 ⟨rfl, hs2⟩
      clear hs HO
      go_wp2_with fail
      refine (pass_st hs2 1000 (by rw [HK.out]; decide +kernel)).mono ?_; rintro e w3 ⟨rfl, hs3⟩
      clear hs2
      go_wp2_with fail
      refine (pass_nil _).mono ?_; rintro e w' ⟨rfl, rfl⟩
      go_wp2_with fail
      refine (wait_nil _ _).mono ?_; rintro e w' ⟨rfl, rfl⟩
      go_wp2_with fail
      refine (rest_nil _).mono ?_; rintro e w' ⟨rfl, rfl⟩
      go_wp2_with fail
      refine (over_st hs3 true (by simp; omega)).mono ?_; rintro e w4 ⟨rfl, hs4⟩
      clear hs3
      go_wp2_with fail
      refine (now_nil _).mono ?_; rintro e w' ⟨rfl, rfl⟩
      go_wp2_with fail
      refine (waits_nil _).mono ?_; rintro e w' ⟨rfl, rfl⟩
      go_wp2_with fail
      refine (over_nil _).mono ?_; rintro e w5 ⟨rfl, q, rfl⟩
      have hs5 := hs4.drewN q
      clear hs4
      go_wp2_with fail
      refine (wakes_any _).mono ?_; rintro e w8 ⟨rfl, hb⟩
      go_wp2_with fail
      go_ret
      exact ⟨rfl, hs5.2.1.trans (hb.mono (by have := hs5.1.lt; omega))⟩

theorem clockEnds_any (n : Int) (w : World) : Calls Try.prog 5 #[.int .i64 n] w fun e w' => e = .returned (.bool true) ∧ Below w.heap.size w w' := by
  by_cases h : n ≤ 0
  · exact ends_low n w h
  · by_cases g : n < 1000
    · refine ends_high n n w (by omega) (by unfold clamp; rw [if_neg (by omega), if_neg (by omega)]) (by omega) (by omega) true (by simp; omega) (by simp; omega)
    · by_cases g2 : n = 1000
      · refine ends_high n 1000 w (by omega) (by unfold clamp; rw [if_neg (by omega), if_neg (by omega)]; exact g2) (by omega) (by omega) false (by simp) (by simp; omega)
      · refine ends_high n 1000 w (by omega) (by unfold clamp; rw [if_neg (by omega), if_pos (by omega)]) (by omega) (by omega) false (by simp) (by simp; omega)

end Go.Proofs.Ytbaljleimiflmaa.Clk
