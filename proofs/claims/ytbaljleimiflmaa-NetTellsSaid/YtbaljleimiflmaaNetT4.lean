/-
  NetTells answers true of every list of acts and touches nothing elder. Conditions: the acts lie in memory as a slice does.
-/
import Derived.Test.YtbaljleimiflmaaNetT2
namespace Go.Proofs.Ytbaljleimiflmaa.Net
open Go.RowKit Go.Proofs.Ytbaljleimiflmaa.PNetTells Go.Proofs.YtbaljleimiflmaaW.PrintWords Go.Proofs.YtbaljleimiflmaaW.PrintLast
theorem netTells_any (A : Option Addr) (l : List S68) (cap : Nat) (w : World) (hc : l.length ≤ cap) (hl : Kd.C k68 w A l.length l) :
    Calls Try.prog 10 #[.slice A l.length cap] w fun e w' => e = .returned (.bool true) ∧ Below w.heap.size w w' := by
  obtain ⟨kf, b, hf, hb⟩ := fair_f l
  cases b
  · exact tells_wakes A l cap kf w hl hc hf
  · exact tells_main A l cap kf w (hb rfl) hl hc hf
end Go.Proofs.Ytbaljleimiflmaa.Net
