/-
  An item, an act of the net's laws, read off the form's own reading.
-/
import Derived.Test.YtbaljleimiflmaaPNetTellsx0
import Derived.Test.YtbaljleimiflmaaRead
namespace Go.Proofs.Ytbaljleimiflmaa.Net
open Go.RowKit Go.Proofs.Ytbaljleimiflmaa.PNetTells Go.Proofs.YtbaljleimiflmaaW.PrintWords
section
variable {H : Type} {enc : TypeId × Value → H} {w : World} {base : Nat} {spare : Nat → Bool} {held : Bool}
theorem item_K {n : Nat} {cs : List Value} {y : DataW H × List MemPlace} (h : DataW.trod enc Try.prog w base spare held n 72 cs = some y) : ∃ x : S72, k72.K w x cs ∧ True := by
  obtain ⟨x, hx, _⟩ := Read.pair_K Try.underlying72 rfl (by kernel_rfl) (by kernel_rfl) (fun n cs y h => Read.int_K Try.underlying3 h) (fun n cs y h => Read.string_K Try.underlying9 h) h
  exact ⟨⟨x.1, x.2⟩, hx, trivial⟩
theorem act_K {n : Nat} {cs : List Value} {y : DataW H × List MemPlace} (h : DataW.trod enc Try.prog w base spare held n 68 cs = some y) : ∃ x : S68, k68.K w x cs ∧ True := by
  obtain ⟨x, hx, _⟩ := Read.triple_K Try.underlying68 rfl (by kernel_rfl) (by kernel_rfl) (by kernel_rfl) (fun n cs y h => Read.int_K Try.underlying3 h) (fun n cs y h => Read.int_K Try.underlying3 h) (fun n cs y h => Read.string_K Try.underlying9 h) h
  exact ⟨⟨x.1, x.2.1, x.2.2⟩, hx, trivial⟩
end
end Go.Proofs.Ytbaljleimiflmaa.Net
