/-
  Drop; the law's small example. Conditions: the net is there.
-/
import Derived.Test.YtbaljleimiflmaaNetD
namespace Go.Proofs.Ytbaljleimiflmaa.Net
open Go.RowKit Go.Proofs.Ytbaljleimiflmaa.PNetTells Go.Proofs.YtbaljleimiflmaaW.PrintWords Go.Proofs.YtbaljleimiflmaaW.PrintLast

section
variable {w0 w : World} {B b : Nat} {A : Option Addr} {c : Nat} {xs : List S72}
theorem drop_nil (i : Int) : Calls Try.prog 38 #[.pointer none, .int .i64 i] w fun e w' => e = .returned (.bool false) ∧ Below w.heap.size w w' := by
  have hu72 := Try.underlying72
  go_enter Try.func38, Try.ntmps38
  go_wp2_with fail
  refine (take_nil i).mono ?_; rintro e w1 ⟨rfl, hb⟩
  have hsz := hb.size
  unfold Item
  go_wp2_with fail
  go_ret
  exact ⟨rfl, hb.alloc hsz _⟩

theorem drop_not (h : NetAt w B b A c xs) (i : Int) (hi : ¬ (0 ≤ i ∧ i < (xs.length : Int))) :
    Calls Try.prog 38 #[.pointer (some ⟨b, 0, none⟩), .int .i64 i] w fun e w' => e = .returned (.bool false) ∧ Below w.heap.size w w' := by
  have hu72 := Try.underlying72
  go_enter Try.func38, Try.ntmps38
  go_wp2_with fail
  refine (take_not h i hi).mono ?_; rintro e w1 ⟨rfl, hb⟩
  have hsz := hb.size
  unfold Item
  go_wp2_with fail
  go_ret
  exact ⟨rfl, hb.alloc hsz _⟩

theorem drop_any (h : NetAt w B b A c xs) (HB : Below B w0 w) (hB : B ≤ w.heap.size) (hb : B ≤ b) (i : Nat) (hi : i < xs.length) :
    Calls Try.prog 38 #[.pointer (some ⟨b, 0, none⟩), .int .i64 i] w (NetTo B b w0 w (Value.slice A xs.length c).ownBlock (.bool true) (xs.eraseIdx i)) := by
  have hu72 := Try.underlying72
  have C := Aside0.mk (take_any h HB hB hb i hi)
  clear h
  go_enter Try.func38, Try.ntmps38
  go_wp2_with fail
  refine C.out.mono ?_
  rintro e w1 ⟨rfl, A1, c1, hn, hb1, hk, hat⟩
  have N := Aside0.mk hn
  have B1 := Aside0.mk hb1
  have K := Aside0.mk hk
  have AT := Aside0.mk hat
  clear hn hb1 hk hat C
  unfold Item
  go_wp2_with fail
  go_ret
  refine ⟨rfl, A1, c1, ⟨(Below.heap_alloc _ _ _ (blk_lt N.out.1)).trans N.out.1, R72_move N.out.2 (fun k hk => Below.heap_alloc _ _ _ ?_)⟩, B1.out.alloc (Nat.le_trans hB K.out.1) _, ⟨by simp; have := K.out.1; omega, fun k hk h1 h2 => (Below.heap_alloc _ _ _ (Nat.lt_of_lt_of_le hk K.out.1)).trans (K.out.2 k hk h1 h2)⟩, AT.out⟩
  obtain ⟨inner, ho⟩ := R72_own N.out.2
  exact own_lt ho k hk
end

end Go.Proofs.Ytbaljleimiflmaa.Net
