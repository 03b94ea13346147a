/-
  The net law's small example answers true and touches nothing elder.
-/
import Derived.Test.YtbaljleimiflmaaNetF
namespace Go.Proofs.Ytbaljleimiflmaa.Net
open Go.RowKit Go.Proofs.Ytbaljleimiflmaa.PNetTells Go.Proofs.YtbaljleimiflmaaW.PrintWords Go.Proofs.YtbaljleimiflmaaW.PrintLast
attribute [local go_sem high] eqA72

def wa : ByteArray := ⟨#[97]⟩
def wb : ByteArray := ⟨#[98]⟩
def wc : ByteArray := ⟨#[99]⟩

set_option maxHeartbeats 1600000 in
set_option maxRecDepth 100000 in
theorem wakes_any (w : World) : Calls Try.prog 35 #[] w fun e w' => e = .returned (.bool true) ∧ Below w.heap.size w w' := by
  have hu72 := Try.underlying72
  go_enter Try.func35, Try.ntmps35
  go_wp2_with fail
  refine (put_s (NSt.new w) (by simp) 1 wa).mono ?_; rintro e w1 ⟨rfl, s1, _⟩
  rw [List.nil_append] at s1
  go_wp2_with fail
  refine (put_s s1 (by simp) 2 wb).mono ?_; rintro e w2 ⟨rfl, s2, _⟩
  clear s1
  have S2 : NSt w w.heap.size w.heap.size (fun _ => False) [⟨1, wa⟩, ⟨2, wb⟩] w2 := s2
  clear s2
  go_wp2_with fail
  refine (take_s S2 0 (by simp)).mono ?_; rintro e w3 ⟨rfl, s3, _⟩
  clear S2
  have S3 : NSt w w.heap.size w.heap.size (fun _ => False) [⟨2, wb⟩] w3 := s3
  clear s3
  have z3 := S3.size
  unfold Item
  simp only [List.getD_cons_zero]
  have n3 := heap_alloc_new w3 (.cells #[.int .i64 1, .string wa] 72)
  obtain ⟨X, hX⟩ : ∃ X, X = w3.heap.size := ⟨_, rfl⟩
  have S4 : NSt w w.heap.size w.heap.size (fun k => k = X) [⟨2, wb⟩] (w3.alloc (.cells #[.int .i64 1, .string wa] 72)) := (S3.more (.cells #[.int .i64 1, .string wa] 72)).fewer (fun k hk => .inr (by rw [hk, hX]))
  have N4 := Aside0.mk n3
  rw [← hX] at N4
  have HX := Lib.hid hX
  have zX : w.heap.size ≤ X := by omega
  clear S3 n3 hX
  go_wp2_with fail
  refine (take_f S4 1 (by simp)).mono ?_; rintro e w4 ⟨rfl, s5, k5⟩
  have N5 := Aside0.mk ((k5 X rfl).trans N4.out)
  clear S4 N4 k5
  have S6 : NSt w w.heap.size w.heap.size (fun k => k = X) [⟨2, wb⟩] (w4.alloc (.cells #[.int .i64 z72.f0, .string z72.f1] 72)) := (s5.more _).fewer (fun k hk => .inl hk)
  have N6 := Aside0.mk ((Below.heap_alloc w4 (.cells #[.int .i64 z72.f0, .string z72.f1] 72) X (blk_lt N5.out)).trans N5.out)
  clear s5 N5
  unfold Item
  go_wp2_with fail
  refine (twice_s S6 (by simp) 0 (by simp)).mono ?_; rintro e w5 ⟨rfl, s7, k7⟩
  have N7 := Aside0.mk ((k7 X rfl).trans N6.out)
  have S7 : NSt w w.heap.size w.heap.size (fun k => k = X) [⟨2, wb⟩, ⟨2, wb⟩] w5 := s7
  clear S6 N6 k7 s7
  go_wp2_with fail
  refine (turn_s S7 0 wc (by simp)).mono ?_; rintro e w6 ⟨rfl, s8, k8⟩
  have N8 := Aside0.mk ((k8 X rfl).trans N7.out)
  have S8 : NSt w w.heap.size w.heap.size (fun k => k = X) [⟨2, wc⟩, ⟨2, wb⟩] w6 := s8
  clear S7 N7 k8 s8
  go_wp2_with fail
  refine (all_s S8 (by simp)).mono ?_; rintro e w7 ⟨A, c, rfl, hr, s9, k9⟩
  have N9 := Aside0.mk ((k9 X (blk_lt N8.out)).trans N8.out)
  have S9 : NSt w w.heap.size w.heap.size (fun k => k = X) [⟨2, wc⟩, ⟨2, wb⟩] w7 := s9.fewer (fun k hk => .inl hk)
  obtain ⟨g, rfl, hg1, hg2, hc1, hc2, hx0, hx1, _, _⟩ := item_at hr 0 (by simp)
  obtain ⟨g', hg', _, _, _, _, hy0, hy1, _, _⟩ := item_at hr 1 (by simp)
  injection hg' with hg'
  injection hg' with hg'
  subst hg'
  have cx0 := blk_cell N9.out 0
  have cx1 := blk_cell N9.out 1
  simp at cx0 cx1 hx0 hx1 hy0 hy1
  clear S8 N8 k9 s9 hr
  rw [HX.out] at cx0 cx1
  have ea : wa.toList = [97] := by decide +kernel
  have eb : wb.toList = [98] := by decide +kernel
  have ec : wc.toList = [99] := by decide +kernel
  go_wp2_with fail
  refine (drop_s S9 1 (by simp)).mono ?_; rintro e w8 ⟨rfl, s10, _⟩
  have S10 : NSt w w.heap.size w.heap.size (fun k => k = X) [⟨2, wc⟩] w8 := s10
  clear s10 S9
  go_wp2_with fail
  refine (drop_f S10 1 (by simp)).mono ?_; rintro e w9 ⟨rfl, s11, _⟩
  clear S10
  go_wp2_with fail
  go_ret
  exact ⟨rfl, s11.old⟩

end Go.Proofs.Ytbaljleimiflmaa.Net
