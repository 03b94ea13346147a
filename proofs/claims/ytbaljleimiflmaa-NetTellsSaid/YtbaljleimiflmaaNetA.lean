/-
  The net's small functions over a net that is one block of memory with a slice of its own: is there an item, a copy of all. Conditions: the net is there.
-/
import Derived.Test.YtbaljleimiflmaaPNetTellsx0
import Derived.Lib.Hide
import Derived.WalkSpells
import Derived.WalkLawsBesides
import Derived.Deep.RegionLaw
namespace Go.Proofs.Ytbaljleimiflmaa.Net
open Go.RowKit Go.Proofs.Ytbaljleimiflmaa.PNetTells Go.Proofs.YtbaljleimiflmaaW.PrintWords Go.Proofs.YtbaljleimiflmaaW.PrintLast

/-- The net at b holds these items, in a row of its own. -/
def NetAt (w : World) (B b : Nat) (A : Option Addr) (c : Nat) (xs : List S72) : Prop :=
  w.heap[b]? = some (.cells #[.slice A xs.length c] 65 (0, 0)) ∧ Kd.R k72 72 w B (fun _ => True) (.slice A xs.length c) xs

theorem there_nil (w : World) (i : Int) : Calls Try.prog 45 #[.pointer none, .int .i64 i] w fun e w' => e = .returned (.bool false) ∧ w = w' := by
  go_enter Try.func45, Try.ntmps45
  go_wp2
  go_ret
  exact ⟨rfl, rfl⟩

theorem there_any (w : World) (b : Nat) (A : Option Addr) (n c : Nat) (i : Int) (o : Bool) (h : w.heap[b]? = some (.cells #[.slice A n c] 65 (0, 0))) (ho : o = (decide (0 ≤ i) && decide (i < (n : Int)))) :
    Calls Try.prog 45 #[.pointer (some ⟨b, 0, none⟩), .int .i64 i] w fun e w' => e = .returned (.bool o) ∧ w = w' := by
  have h0 := blk_cell h 0
  simp at h0
  have H := Lib.hid h
  clear h
  by_cases c1 : 0 ≤ i
  · by_cases c2 : i < (n : Int)
    · obtain rfl : o = true := by rw [ho]; simp [c1, c2]
      clear ho
      go_enter Try.func45, Try.ntmps45
      go_wp2
      go_ret
      exact ⟨rfl, rfl⟩
    · obtain rfl : o = false := by rw [ho]; simp [c2]
      clear ho
      go_enter Try.func45, Try.ntmps45
      go_wp2
      go_ret
      exact ⟨rfl, rfl⟩
  · obtain rfl : o = false := by rw [ho]; simp [c1]
    clear ho
    have c2 : decide (0 ≤ i) = false := by simpa using c1
    go_enter Try.func45, Try.ntmps45
    go_wp2
    go_ret
    exact ⟨rfl, rfl⟩

end Go.Proofs.Ytbaljleimiflmaa.Net
