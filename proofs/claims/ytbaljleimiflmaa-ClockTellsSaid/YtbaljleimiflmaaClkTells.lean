/-
  The walk of ClockTells: it answers true of every list of acts and touches nothing elder. Conditions: the acts lie in memory as a slice does.
-/
import Derived.Test.YtbaljleimiflmaaClkTwo
namespace Go.Proofs.Ytbaljleimiflmaa.Clk
open Go.RowKit Go.Proofs.YtbaljleimiflmaaW.PrintWords

/-- Too many acts: the small example alone. -/
theorem tells_far (A : Option Addr) (l : List (Int × Int)) (cap : Nat) (w : World) (h : 200 < l.length) (hm : l.length ≤ 9223372036854775807) :
    Calls Try.prog 3 #[.slice A l.length cap] w fun e w' => e = .returned (.bool true) ∧ Below w.heap.size w w' := by
  go_enter Try.func3, Try.ntmps3
  go_wp2_with fail
  refine (wakes_any _).mono ?_; rintro e w8 ⟨rfl, hb⟩
  go_wp2_with fail
  go_ret
  exact ⟨rfl, hb⟩

theorem cell_lt {w : World} {a : Addr} {v : Value} (h : w.cell? a = some v) : a.block < w.heap.size := by
  rcases Nat.lt_or_ge a.block w.heap.size with h' | h'
  · exact h'
  · simp [World.cell?, Array.getElem?_eq_none h'] at h
/-- An elder cell in a later world. -/
theorem act_in {w w1 : World} {ad : Addr} {i : Nat} {x m : Int} (hx0 : w.cell? (ad.add i) = some (.int .i64 x)) (hx1 : w.cell? (ad.add (i + 1)) = some (.int .i64 m)) (hb : Below w.heap.size w w1) :
    w1.cell? (ad.add i) = some (.int .i64 x) ∧ w1.cell? ⟨(ad.add i).block, (ad.add i).off + 1, none⟩ = some (.int .i64 m) := by
  rw [← add_field ad i 1 (by omega)]
  exact ⟨(hb.cell (cell_lt hx0)).trans hx0, (hb.cell (cell_lt hx1)).trans hx1⟩

set_option maxHeartbeats 1600000 in
set_option maxRecDepth 100000 in
theorem tells_near (A : Option Addr) (l : List (Int × Int)) (cap : Nat) (w : World) (hn : l.length ≤ 200) (hl : Kd.C kAct w A l.length l) :
    Calls Try.prog 3 #[.slice A l.length cap] w fun e w' => e = .returned (.bool true) ∧ Below w.heap.size w w' := by
  have HL := Lib.hid hl
  clear hl
  go_enter Try.func3, Try.ntmps3
  go_wp2_with fail
  go_loopw [5] (fun i wr => ∃ (k : Nat) (n u s t : Int) (f : Bool), k ≤ l.length ∧ i = .int .i64 k ∧ n ≤ k ∧ St2 w.heap.size w w.heap.size (w.heap.size + 1) n u s t f wr) (fun i _ => l.length - (intOf i).toNat)
  case atStart => exact ⟨0, 0, 0, 0, 0, false, Nat.zero_le _, rfl, by omega, (st2_new w).1, (st2_new w).2.1, (st2_new w).2.2.1, (st2_new w).2.2.2.1, (st2_new w).2.2.2.2.1, (st2_new w).2.2.2.2.2, (fun h => by cases h), by omega, by omega, by omega, by omega⟩
  case round =>
    obtain ⟨k, n, u, s, t, f, hk, rfl, hnk, hs⟩ := hrel
    by_cases hlt : k < l.length
    · obtain ⟨ad, rfl, ex0, ex1⟩ := act_at HL.out k hlt
      generalize (l.getD k (0, 0)).1 = kind at *
      generalize (l.getD k (0, 0)).2 = m at *
      obtain ⟨hx0, hx1⟩ := act_in ex0 ex1 hs.2.2.1
      have H0 := Lib.hid ex0
      have H1 := Lib.hid ex1
      clear ex0 ex1
      have cm := clamp_bd m
      obtain ⟨e1, e2, e3, e4⟩ := hs.2.2.2.2.2.2.2
      by_cases c0 : kind = 0
      · subst c0
        have HS := Lib.hid hs
        clear hs
        go_wp2_with fail
        refine (pass_h (half_of HS.out) (n + 1) (by unfold wrap64; omega)).mono ?_; rintro e w2 ⟨rfl, h2⟩
        go_wp2_with fail
        refine (rpass_h h2 (n + 1) (by unfold wrap64; omega)).mono ?_; rintro e w3 ⟨rfl, h3⟩
        have S : St2 w.heap.size w w.heap.size (w.heap.size + 1) (n + 1) u s t f w3 := ⟨h3.1, h3.2.1, h3.2.2.1, h3.2.2.2.1, h3.2.2.2.2.1, h3.2.2.2.2.2, HS.out.2.2.2.2.2.2.1, e1, by omega, e3, e4⟩
        clear h2 h3 HS hx0 hx1
        go_wp2_with fail
        have hq0 := S.2.1.cell 0
        have hq3 := S.2.1.cell 3
        simp at hq0 hq3
        obtain ⟨o, ho⟩ : ∃ o, (f && decide (u ≤ (n + 1))) = o := ⟨_, rfl⟩
        have HR := S.rover (by omega)
        rw [ho] at HR
        have HO := Lib.hid ho
        clear ho
        have HS2 := Lib.hid S
        clear S
        go_quiet ((first | (go_at_call 21; exact Calls.quiet_of_same (now_any _ _ _ _ _ HS2.out.1)) | (go_at_call 22; exact Calls.quiet_of_same (waits_any _ _ _ _ _ HS2.out.1)) | (go_at_call 23; exact Calls.quiet_of (over_any _ _ _ _ _ _ HS2.out.1 HO)) | (go_at_call 24; exact Calls.quiet_of (rover_any _ _ _ _ _ _ _ HS2.out.2.1 HR))))
        clear hq0 hq3 HO HR
        go_wp2
        go_roundw
        case rel => exact ⟨k + 1, (n + 1), u, s, t, f, by omega, by go_num, by omega, HS2.out.drewN _⟩
        case measure => simp [intOf]; omega
      · by_cases c1 : kind = 1
        · subst c1
          have HS := Lib.hid hs
          clear hs
          go_wp2_with fail
          refine (wait_h (half_of HS.out) m (n + clamp m) (by unfold wrap64; omega)).mono ?_; rintro e w2 ⟨rfl, h2⟩
          have hx2 := (act_in H0.out H1.out h2.2.2.1).2
          clear hx0 hx1
          go_wp2_with fail
          refine (rwait_h h2 m).mono ?_; rintro e w3 ⟨rfl, h3⟩
          have S : St2 w.heap.size w w.heap.size (w.heap.size + 1) n (n + clamp m) n (clamp m) true w3 := ⟨h3.1, h3.2.1, h3.2.2.1, h3.2.2.2.1, h3.2.2.2.2.1, h3.2.2.2.2.2, fun _ => rfl, by omega, by omega, cm.1, cm.2⟩
          clear h2 h3 HS hx2
          go_wp2_with fail
          have hq0 := S.2.1.cell 0
          have hq3 := S.2.1.cell 3
          simp at hq0 hq3
          obtain ⟨o, ho⟩ : ∃ o, (true && decide ((n + clamp m) ≤ n)) = o := ⟨_, rfl⟩
          have HR := S.rover (by omega)
          rw [ho] at HR
          have HO := Lib.hid ho
          clear ho
          have HS2 := Lib.hid S
          clear S
          go_quiet ((first | (go_at_call 21; exact Calls.quiet_of_same (now_any _ _ _ _ _ HS2.out.1)) | (go_at_call 22; exact Calls.quiet_of_same (waits_any _ _ _ _ _ HS2.out.1)) | (go_at_call 23; exact Calls.quiet_of (over_any _ _ _ _ _ _ HS2.out.1 HO)) | (go_at_call 24; exact Calls.quiet_of (rover_any _ _ _ _ _ _ _ HS2.out.2.1 HR))))
          clear hq0 hq3 HO HR
          go_wp2
          go_roundw
          case rel => exact ⟨k + 1, n, (n + clamp m), n, (clamp m), true, by omega, by go_num, by omega, HS2.out.drewN _⟩
          case measure => simp [intOf]; omega
        · have b0 : (kind == 0) = false := beq_eq_false_iff_ne.2 c0
          have b1 : (kind == 1) = false := beq_eq_false_iff_ne.2 c1
          by_cases c2 : kind = 2
          · subst c2
            have HS := Lib.hid hs
            clear hs c0 c1
            go_wp2_with fail
            refine (rest_h (half_of HS.out)).mono ?_; rintro e w2 ⟨rfl, h2⟩
            go_wp2_with fail
            refine (rrest_h h2).mono ?_; rintro e w3 ⟨rfl, h3⟩
            have S : St2 w.heap.size w w.heap.size (w.heap.size + 1) n u s t false w3 := ⟨h3.1, h3.2.1, h3.2.2.1, h3.2.2.2.1, h3.2.2.2.2.1, h3.2.2.2.2.2, (fun h => by cases h), e1, e2, e3, e4⟩
            clear h2 h3 HS hx0 hx1
            go_wp2_with fail
            have hq0 := S.2.1.cell 0
            have hq3 := S.2.1.cell 3
            simp at hq0 hq3
            obtain ⟨o, ho⟩ : ∃ o, (false && decide (u ≤ n)) = o := ⟨_, rfl⟩
            have HR := S.rover (by omega)
            rw [ho] at HR
            have HO := Lib.hid ho
            clear ho
            have HS2 := Lib.hid S
            clear S
            go_quiet ((first | (go_at_call 21; exact Calls.quiet_of_same (now_any _ _ _ _ _ HS2.out.1)) | (go_at_call 22; exact Calls.quiet_of_same (waits_any _ _ _ _ _ HS2.out.1)) | (go_at_call 23; exact Calls.quiet_of (over_any _ _ _ _ _ _ HS2.out.1 HO)) | (go_at_call 24; exact Calls.quiet_of (rover_any _ _ _ _ _ _ _ HS2.out.2.1 HR))))
            clear hq0 hq3 HO HR
            go_wp2
            go_roundw
            case rel => exact ⟨k + 1, n, u, s, t, false, by omega, by go_num, by omega, HS2.out.drewN _⟩
            case measure => simp [intOf]; omega
          · have b2 : (kind == 2) = false := beq_eq_false_iff_ne.2 c2
            clear c0 c1 c2
            have S := hs
            clear hs
            go_wp2_with fail
            have hq0 := S.2.1.cell 0
            have hq3 := S.2.1.cell 3
            simp at hq0 hq3
            obtain ⟨o, ho⟩ : ∃ o, (f && decide (u ≤ n)) = o := ⟨_, rfl⟩
            have HR := S.rover (by omega)
            rw [ho] at HR
            have HO := Lib.hid ho
            clear ho
            have HS2 := Lib.hid S
            clear S
            go_quiet ((first | (go_at_call 21; exact Calls.quiet_of_same (now_any _ _ _ _ _ HS2.out.1)) | (go_at_call 22; exact Calls.quiet_of_same (waits_any _ _ _ _ _ HS2.out.1)) | (go_at_call 23; exact Calls.quiet_of (over_any _ _ _ _ _ _ HS2.out.1 HO)) | (go_at_call 24; exact Calls.quiet_of (rover_any _ _ _ _ _ _ _ HS2.out.2.1 HR))))
            clear hq0 hq3 HO HR
            go_wp2
            go_roundw
            case rel => exact ⟨k + 1, n, u, s, t, f, by omega, by go_num, by omega, HS2.out.drewN _⟩
            case measure => simp [intOf]; omega
    · obtain rfl : k = l.length := by omega
      have HS := Lib.hid hs
      clear hs
      go_wp2_with fail
      refine (wakes_any _).mono ?_; rintro e w8 ⟨rfl, hb⟩
      go_wp2_with fail
      go_ret
      exact ⟨rfl, HS.out.2.2.1.trans (hb.mono (by have := HS.out.1.lt; omega))⟩

theorem clockTells_any (A : Option Addr) (l : List (Int × Int)) (cap : Nat) (w : World) (hm : l.length ≤ 9223372036854775807) (hl : Kd.C kAct w A l.length l) :
    Calls Try.prog 3 #[.slice A l.length cap] w fun e w' => e = .returned (.bool true) ∧ Below w.heap.size w w' := by
  by_cases h : l.length ≤ 200
  · exact tells_near A l cap w h hl
  · exact tells_far A l cap w (by omega) hm

end Go.Proofs.Ytbaljleimiflmaa.Clk
