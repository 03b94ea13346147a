/-
  The walk of NetNone: it answers true of every list of items, every number, every text and touches nothing elder. Conditions: the items lie in memory as a slice does.
-/
import Derived.Test.YtbaljleimiflmaaNetOrd
namespace Go.Proofs.Ytbaljleimiflmaa.Net
open Go.RowKit Go.Proofs.Ytbaljleimiflmaa.PNetTells Go.Proofs.YtbaljleimiflmaaW.PrintWords Go.Proofs.YtbaljleimiflmaaW.PrintLast
attribute [local go_sem high] eqA72

theorem none_far (A : Option Addr) (l : List S72) (cap : Nat) (i : Int) (s : ByteArray) (w : World) (h : 50 < l.length) (hm : l.length ≤ 9223372036854775807) :
    Calls Try.prog 12 #[.slice A l.length cap, .int .i64 i, .string s] w fun e w' => e = .returned (.bool true) ∧ Below w.heap.size w w' := by
  go_enter Try.func12, Try.ntmps12
  go_wp2_with fail
  refine (wakes_any _).mono ?_; rintro e w8 ⟨rfl, hb⟩
  go_wp2_with fail
  go_ret
  exact ⟨rfl, hb⟩

set_option maxHeartbeats 2000000 in
set_option maxRecDepth 100000 in
theorem none_near (A : Option Addr) (l : List S72) (cap : Nat) (i : Int) (s : ByteArray) (w : World) (hn : l.length ≤ 50) (hl : Kd.C k72 w A l.length l) :
    Calls Try.prog 12 #[.slice A l.length cap, .int .i64 i, .string s] w fun e w' => e = .returned (.bool true) ∧ Below w.heap.size w w' := by
  have HL := Aside0.mk hl
  clear hl
  have hu72 := Try.underlying72
  go_enter Try.func12, Try.ntmps12
  go_wp2_with fail
  go_loopw [8] (fun i wr => ∃ k : Nat, k ≤ l.length ∧ i = .int .i64 k ∧ NSt w w.heap.size w.heap.size (fun _ => False) (l.take k) wr) (fun i _ => l.length - (intOf i).toNat)
  case atStart => exact ⟨0, Nat.zero_le _, rfl, by rw [List.take_zero]; exact NSt.new w⟩
  case round =>
    obtain ⟨k, hk, rfl, hs⟩ := hrel
    by_cases hlt : k < l.length
    · obtain ⟨ad, rfl, hi⟩ := came_at HL.out hs.old k hlt
      have ht := take_snoc72 l k hlt
      have HT := Lib.hid ht
      clear ht
      obtain ⟨hx0, hx1⟩ := hi
      generalize l.getD k z72 = x at *
      have b1 : (k : Int) < (l.length : Int) := by omega
      have ks : (l.take k).length ≤ 100 := by rw [List.length_take]; omega
      have HS := Lib.hid hs
      clear hs
      go_wp2_with fail
      go_still_tail 10, (by kernel_rfl)
      change wpList _ _ _ _ _ (World.drew _)
      have S2 : NSt w w.heap.size w.heap.size (fun _ => False) (l.take k) wr.drew := HS.out.drewN 1
      go_wp2_with fail
      refine (put_s S2 (by omega) x.f0 x.f1).mono ?_; rintro e w2 ⟨rfl, hs2, _⟩
      rw [HT.out] at hs2
      clear S2 hx0 hx1 HS HT
      go_wp2_with fail
      go_roundw
      case rel => exact ⟨k + 1, by omega, by go_num, hs2⟩
      case measure => simp [intOf]; omega
    · obtain rfl : k = l.length := by omega
      rw [List.take_length] at hs
      clear hlt hk
      go_wp2_with fail
      refine (put_nil _ _).mono ?_; rintro e w' ⟨rfl, rfl⟩
      go_wp2_with fail
      refine (take_nil _).mono ?_; rintro e w2 ⟨rfl, hb⟩
      have hs2 := (hs.below hb).more (.cells #[.int .i64 z72.f0, .string z72.f1] 72) |>.fewer (S' := fun _ => False) (fun _ h => h.elim)
      clear hs hb
      unfold Item
      go_wp2_with fail
      refine (drop_nil _).mono ?_; rintro e w3 ⟨rfl, hb⟩
      have hs3 := hs2.below hb
      clear hs2 hb
      go_wp2_with fail
      refine (twice_nil _).mono ?_; rintro e w' ⟨rfl, rfl⟩
      go_wp2_with fail
      refine (turn_nil _ _).mono ?_; rintro e w' ⟨rfl, rfl⟩
      go_wp2_with fail
      refine (all_nil _).mono ?_; rintro e w' ⟨rfl, rfl⟩
      by_cases hi : 0 ≤ i ∧ i < (l.length : Int)
      · obtain ⟨h1, h2⟩ := hi
        go_wp2_with fail
        refine (wakes_any _).mono ?_; rintro e w4 ⟨rfl, hb⟩
        go_wp2_with fail
        go_ret
        exact ⟨rfl, hs3.old.trans (hb.mono hs3.size.1)⟩
      · by_cases h1 : 0 ≤ i
        · have h2 : ¬ i < (l.length : Int) := fun h => hi ⟨h1, h⟩
          go_wp2_with fail
          refine (take_f hs3 i hi).mono ?_; rintro e w4 ⟨rfl, hs4, _⟩
          have hs5 := (hs4.more (.cells #[.int .i64 z72.f0, .string z72.f1] 72)).fewer (S' := fun _ => False) (fun _ h => h.elim)
          clear hs3 hs4
          unfold Item
          go_wp2_with fail
          refine (drop_f hs5 i hi).mono ?_; rintro e w5 ⟨rfl, hs6, _⟩
          clear hs5
          go_wp2_with fail
          refine (twice_f hs6 i hi).mono ?_; rintro e w6 ⟨rfl, hs7, _⟩
          clear hs6
          go_wp2_with fail
          refine (turn_f hs7 i s hi).mono ?_; rintro e w7 ⟨rfl, hs8, _⟩
          clear hs7
          go_wp2_with fail
          refine (all_s hs8 (by omega)).mono ?_; rintro e w8 ⟨A', c', rfl, hr, hs9, _⟩
          clear hs8
          have HR := Aside0.mk hr
          have H9 := Aside0.mk hs9
          clear hr hs9
          go_wp2_with fail
          go_loopw [15] (fun i wr => ∃ k q : Nat, k ≤ l.length ∧ i = .int .i64 k ∧ wr = w8.drewN q) (fun i _ => l.length - (intOf i).toNat)
          case atStart => exact ⟨0, 0, Nat.zero_le _, rfl, rfl⟩
          case round =>
            obtain ⟨k, q, hk, rfl, rfl⟩ := hrel
            by_cases hlt : k < l.length
            · obtain ⟨ad, rfl, hx0, hx1⟩ := came_at HL.out H9.out.old k hlt
              obtain ⟨g, rfl, _, _, _, _, hy0, hy1, _, _⟩ := item_at HR.out k hlt
              generalize l.getD k z72 = x at *
              have b1 : (k : Int) < (l.length : Int) := by omega
              go_wp2_with fail
              go_quiet (fail)
              go_wp2
              go_roundw
              case rel => exact ⟨k + 1, _, by omega, by go_num, rfl⟩
              case measure => simp [intOf]; omega
            · obtain rfl : k = l.length := by omega
              clear hlt hk
              go_wp2_with fail
              refine (wakes_any _).mono ?_; rintro e w9 ⟨rfl, hb⟩
              go_wp2_with fail
              go_ret
              exact ⟨rfl, (H9.out.drewN q).old.trans (hb.mono (H9.out.drewN q).size.1)⟩
        · have h2 : decide (0 ≤ i) = false := by simpa using h1
          go_wp2_with fail
          refine (take_f hs3 i hi).mono ?_; rintro e w4 ⟨rfl, hs4, _⟩
          have hs5 := (hs4.more (.cells #[.int .i64 z72.f0, .string z72.f1] 72)).fewer (S' := fun _ => False) (fun _ h => h.elim)
          clear hs3 hs4
          unfold Item
          go_wp2_with fail
          refine (drop_f hs5 i hi).mono ?_; rintro e w5 ⟨rfl, hs6, _⟩
          clear hs5
          go_wp2_with fail
          refine (twice_f hs6 i hi).mono ?_; rintro e w6 ⟨rfl, hs7, _⟩
          clear hs6
          go_wp2_with fail
          refine (turn_f hs7 i s hi).mono ?_; rintro e w7 ⟨rfl, hs8, _⟩
          clear hs7
          go_wp2_with fail
          refine (all_s hs8 (by omega)).mono ?_; rintro e w8 ⟨A', c', rfl, hr, hs9, _⟩
          clear hs8
          have HR := Aside0.mk hr
          have H9 := Aside0.mk hs9
          clear hr hs9
          go_wp2_with fail
          go_loopw [15] (fun i wr => ∃ k q : Nat, k ≤ l.length ∧ i = .int .i64 k ∧ wr = w8.drewN q) (fun i _ => l.length - (intOf i).toNat)
          case atStart => exact ⟨0, 0, Nat.zero_le _, rfl, rfl⟩
          case round =>
            obtain ⟨k, q, hk, rfl, rfl⟩ := hrel
            by_cases hlt : k < l.length
            · obtain ⟨ad, rfl, hx0, hx1⟩ := came_at HL.out H9.out.old k hlt
              obtain ⟨g, rfl, _, _, _, _, hy0, hy1, _, _⟩ := item_at HR.out k hlt
              generalize l.getD k z72 = x at *
              have b1 : (k : Int) < (l.length : Int) := by omega
              go_wp2_with fail
              go_quiet (fail)
              go_wp2
              go_roundw
              case rel => exact ⟨k + 1, _, by omega, by go_num, rfl⟩
              case measure => simp [intOf]; omega
            · obtain rfl : k = l.length := by omega
              clear hlt hk
              go_wp2_with fail
              refine (wakes_any _).mono ?_; rintro e w9 ⟨rfl, hb⟩
              go_wp2_with fail
              go_ret
              exact ⟨rfl, (H9.out.drewN q).old.trans (hb.mono (H9.out.drewN q).size.1)⟩

theorem netNone_any (A : Option Addr) (l : List S72) (cap : Nat) (i : Int) (s : ByteArray) (w : World) (hm : l.length ≤ 9223372036854775807) (hl : Kd.C k72 w A l.length l) :
    Calls Try.prog 12 #[.slice A l.length cap, .int .i64 i, .string s] w fun e w' => e = .returned (.bool true) ∧ Below w.heap.size w w' := by
  by_cases h : l.length ≤ 50
  · exact none_near A l cap i s w h hl
  · exact none_far A l cap i s w (by omega) hm

end Go.Proofs.Ytbaljleimiflmaa.Net
