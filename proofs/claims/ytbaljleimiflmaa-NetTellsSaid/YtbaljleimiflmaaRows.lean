/-
  No cell of these rows narrows 'for every input' (looked for: loops, veiled, ifaces, maps, wideKeys, modest, calm, conditions, laid).
  DERIVED. THE GIVEN ROWS OF THIS SEAT. 11 by the template 'for every input the law returns true; each argument reads behind the call as it read before'; 0 by the template 'total and deterministic' (their statements: YtbaljleimiflmaaTotals.lean).
  GIVEN WITH THE SEED: the statements are not yours to turn. If you find one false, say at which input.
  Laid BY PROGRAM, IN A SANDBOX (cutbox-rows.mjs): the forced cells as the released guide's own fill.sh prints them over the translation 899922abc6436ae7… (all of the seat's roots in one cut). By AI agents, Wed Nov 11 2026. No macro, syntax, notation, axiom, sorry.
-/
import Derived.Test.YtbaljleimiflmaaChecked
import GoSem.Claim
import GoSem.ClaimJoined
import GoSem.ClaimMapViews
import Derived.JoinedTies
import Derived.KernelRfl
namespace Go.Proofs.Ytbaljleimiflmaa
/- THE CELL 'sum', in the pinned program and in every row, IS THE sha256 OF THE DUMP (.gsa) THAT YtbaljleimiflmaaProg.lean LOADS. Nothing in Lean hashes anything: it is a label: what it is worth is what the hold of that sum in a sandbox is worth. -/
noncomputable def Try.pinned : Pinned := { name := "ytbaljleimiflmaa", sum := "899922abc6436ae76782f5f160c65420b8b87681a6effefbeea8eccbc2dd9894", checked := Try.checked }
namespace Rows
def none {H : Type} : Left H := { results := [], args := [] }

/-- 'billetlaw20.ClockTells': WHATEVER THE INPUT: true; the input reads as it did. -/
def clockTellsSpec : ChangeSpec := { name := "clockTells", fn := fun _ => fun
  | [d] => { results := [.lit (.bool true)], args := [d] }
  | _ => none }
def clockTellsRow : OpenClaim := { program := "ytbaljleimiflmaa", sum := "899922abc6436ae76782f5f160c65420b8b87681a6effefbeea8eccbc2dd9894", func := "billet/billetlaw20.ClockTells", spec := "clockTells", apart := false }
def ClockTellsSaid : Prop := clockTellsRow.holds Try.pinned (OpenSpec.ofChange clockTellsSpec)

/-- ITS FALSE NEIGHBOUR: 'it returns false'. Refute it at one input. -/
def clockTellsWrong : ChangeSpec := { name := "clockTells", fn := fun _ => fun
  | [d] => { results := [.lit (.bool false)], args := [d] }
  | _ => none }
def ClockTellsWrongFalsely : Prop := clockTellsRow.holds Try.pinned (OpenSpec.ofChange clockTellsWrong)

/-- 'billetlaw20.ClockOver': WHATEVER THE INPUT: true; the input reads as it did. -/
def clockOverSpec : ChangeSpec := { name := "clockOver", fn := fun _ => fun
  | [d1, d2, d3] => { results := [.lit (.bool true)], args := [d1, d2, d3] }
  | _ => none }
def clockOverRow : OpenClaim := { program := "ytbaljleimiflmaa", sum := "899922abc6436ae76782f5f160c65420b8b87681a6effefbeea8eccbc2dd9894", func := "billet/billetlaw20.ClockOver", spec := "clockOver", apart := false }
def ClockOverSaid : Prop := clockOverRow.holds Try.pinned (OpenSpec.ofChange clockOverSpec)

/-- ITS FALSE NEIGHBOUR: 'it returns false'. Refute it at one input. -/
def clockOverWrong : ChangeSpec := { name := "clockOver", fn := fun _ => fun
  | [d1, d2, d3] => { results := [.lit (.bool false)], args := [d1, d2, d3] }
  | _ => none }
def ClockOverWrongFalsely : Prop := clockOverRow.holds Try.pinned (OpenSpec.ofChange clockOverWrong)

/-- 'billetlaw20.ClockEnds': WHATEVER THE INPUT: true; the input reads as it did. -/
def clockEndsSpec : ChangeSpec := { name := "clockEnds", fn := fun _ => fun
  | [d] => { results := [.lit (.bool true)], args := [d] }
  | _ => none }
def clockEndsRow : OpenClaim := { program := "ytbaljleimiflmaa", sum := "899922abc6436ae76782f5f160c65420b8b87681a6effefbeea8eccbc2dd9894", func := "billet/billetlaw20.ClockEnds", spec := "clockEnds", apart := false }
def ClockEndsSaid : Prop := clockEndsRow.holds Try.pinned (OpenSpec.ofChange clockEndsSpec)

/-- ITS FALSE NEIGHBOUR: 'it returns false'. Refute it at one input. -/
def clockEndsWrong : ChangeSpec := { name := "clockEnds", fn := fun _ => fun
  | [d] => { results := [.lit (.bool false)], args := [d] }
  | _ => none }
def ClockEndsWrongFalsely : Prop := clockEndsRow.holds Try.pinned (OpenSpec.ofChange clockEndsWrong)

/-- 'billetlaw26.SwapTells': WHATEVER THE INPUT: true; the input reads as it did. -/
def swapTellsSpec : ChangeSpec := { name := "swapTells", fn := fun _ => fun
  | [d1, d2, d3] => { results := [.lit (.bool true)], args := [d1, d2, d3] }
  | _ => none }
def swapTellsRow : OpenClaim := { program := "ytbaljleimiflmaa", sum := "899922abc6436ae76782f5f160c65420b8b87681a6effefbeea8eccbc2dd9894", func := "billet/billetlaw26.SwapTells", spec := "swapTells", apart := false }
def SwapTellsSaid : Prop := swapTellsRow.holds Try.pinned (OpenSpec.ofChange swapTellsSpec)

/-- ITS FALSE NEIGHBOUR: 'it returns false'. Refute it at one input. -/
def swapTellsWrong : ChangeSpec := { name := "swapTells", fn := fun _ => fun
  | [d1, d2, d3] => { results := [.lit (.bool false)], args := [d1, d2, d3] }
  | _ => none }
def SwapTellsWrongFalsely : Prop := swapTellsRow.holds Try.pinned (OpenSpec.ofChange swapTellsWrong)

/-- 'billetlaw26.SwapTurns': WHATEVER THE INPUT: true; the input reads as it did. -/
def swapTurnsSpec : ChangeSpec := { name := "swapTurns", fn := fun _ => fun
  | [d] => { results := [.lit (.bool true)], args := [d] }
  | _ => none }
def swapTurnsRow : OpenClaim := { program := "ytbaljleimiflmaa", sum := "899922abc6436ae76782f5f160c65420b8b87681a6effefbeea8eccbc2dd9894", func := "billet/billetlaw26.SwapTurns", spec := "swapTurns", apart := false }
def SwapTurnsSaid : Prop := swapTurnsRow.holds Try.pinned (OpenSpec.ofChange swapTurnsSpec)

/-- ITS FALSE NEIGHBOUR: 'it returns false'. Refute it at one input. -/
def swapTurnsWrong : ChangeSpec := { name := "swapTurns", fn := fun _ => fun
  | [d] => { results := [.lit (.bool false)], args := [d] }
  | _ => none }
def SwapTurnsWrongFalsely : Prop := swapTurnsRow.holds Try.pinned (OpenSpec.ofChange swapTurnsWrong)

/-- 'billetlaw26.SwapNear': WHATEVER THE INPUT: true; the input reads as it did. -/
def swapNearSpec : ChangeSpec := { name := "swapNear", fn := fun _ => fun
  | [d1, d2, d3] => { results := [.lit (.bool true)], args := [d1, d2, d3] }
  | _ => none }
def swapNearRow : OpenClaim := { program := "ytbaljleimiflmaa", sum := "899922abc6436ae76782f5f160c65420b8b87681a6effefbeea8eccbc2dd9894", func := "billet/billetlaw26.SwapNear", spec := "swapNear", apart := false }
def SwapNearSaid : Prop := swapNearRow.holds Try.pinned (OpenSpec.ofChange swapNearSpec)

/-- ITS FALSE NEIGHBOUR: 'it returns false'. Refute it at one input. -/
def swapNearWrong : ChangeSpec := { name := "swapNear", fn := fun _ => fun
  | [d1, d2, d3] => { results := [.lit (.bool false)], args := [d1, d2, d3] }
  | _ => none }
def SwapNearWrongFalsely : Prop := swapNearRow.holds Try.pinned (OpenSpec.ofChange swapNearWrong)

/-- 'billetlaw26.SwapAlone': WHATEVER THE INPUT: true; the input reads as it did. -/
def swapAloneSpec : ChangeSpec := { name := "swapAlone", fn := fun _ => fun
  | [d] => { results := [.lit (.bool true)], args := [d] }
  | _ => none }
def swapAloneRow : OpenClaim := { program := "ytbaljleimiflmaa", sum := "899922abc6436ae76782f5f160c65420b8b87681a6effefbeea8eccbc2dd9894", func := "billet/billetlaw26.SwapAlone", spec := "swapAlone", apart := false }
def SwapAloneSaid : Prop := swapAloneRow.holds Try.pinned (OpenSpec.ofChange swapAloneSpec)

/-- ITS FALSE NEIGHBOUR: 'it returns false'. Refute it at one input. -/
def swapAloneWrong : ChangeSpec := { name := "swapAlone", fn := fun _ => fun
  | [d] => { results := [.lit (.bool false)], args := [d] }
  | _ => none }
def SwapAloneWrongFalsely : Prop := swapAloneRow.holds Try.pinned (OpenSpec.ofChange swapAloneWrong)

/-- 'billetlaw25.NetTells': WHATEVER THE INPUT: true; the input reads as it did. -/
def netTellsSpec : ChangeSpec := { name := "netTells", fn := fun _ => fun
  | [d] => { results := [.lit (.bool true)], args := [d] }
  | _ => none }
def netTellsRow : OpenClaim := { program := "ytbaljleimiflmaa", sum := "899922abc6436ae76782f5f160c65420b8b87681a6effefbeea8eccbc2dd9894", func := "billet/billetlaw25.NetTells", spec := "netTells", apart := false }
def NetTellsSaid : Prop := netTellsRow.holds Try.pinned (OpenSpec.ofChange netTellsSpec)

/-- ITS FALSE NEIGHBOUR: 'it returns false'. Refute it at one input. -/
def netTellsWrong : ChangeSpec := { name := "netTells", fn := fun _ => fun
  | [d] => { results := [.lit (.bool false)], args := [d] }
  | _ => none }
def NetTellsWrongFalsely : Prop := netTellsRow.holds Try.pinned (OpenSpec.ofChange netTellsWrong)

/-- 'billetlaw25.NetOrder': WHATEVER THE INPUT: true; the input reads as it did. -/
def netOrderSpec : ChangeSpec := { name := "netOrder", fn := fun _ => fun
  | [d] => { results := [.lit (.bool true)], args := [d] }
  | _ => none }
def netOrderRow : OpenClaim := { program := "ytbaljleimiflmaa", sum := "899922abc6436ae76782f5f160c65420b8b87681a6effefbeea8eccbc2dd9894", func := "billet/billetlaw25.NetOrder", spec := "netOrder", apart := false }
def NetOrderSaid : Prop := netOrderRow.holds Try.pinned (OpenSpec.ofChange netOrderSpec)

/-- ITS FALSE NEIGHBOUR: 'it returns false'. Refute it at one input. -/
def netOrderWrong : ChangeSpec := { name := "netOrder", fn := fun _ => fun
  | [d] => { results := [.lit (.bool false)], args := [d] }
  | _ => none }
def NetOrderWrongFalsely : Prop := netOrderRow.holds Try.pinned (OpenSpec.ofChange netOrderWrong)

/-- 'billetlaw25.NetNone': WHATEVER THE INPUT: true; the input reads as it did. -/
def netNoneSpec : ChangeSpec := { name := "netNone", fn := fun _ => fun
  | [d1, d2, d3] => { results := [.lit (.bool true)], args := [d1, d2, d3] }
  | _ => none }
def netNoneRow : OpenClaim := { program := "ytbaljleimiflmaa", sum := "899922abc6436ae76782f5f160c65420b8b87681a6effefbeea8eccbc2dd9894", func := "billet/billetlaw25.NetNone", spec := "netNone", apart := false }
def NetNoneSaid : Prop := netNoneRow.holds Try.pinned (OpenSpec.ofChange netNoneSpec)

/-- ITS FALSE NEIGHBOUR: 'it returns false'. Refute it at one input. -/
def netNoneWrong : ChangeSpec := { name := "netNone", fn := fun _ => fun
  | [d1, d2, d3] => { results := [.lit (.bool false)], args := [d1, d2, d3] }
  | _ => none }
def NetNoneWrongFalsely : Prop := netNoneRow.holds Try.pinned (OpenSpec.ofChange netNoneWrong)

/-- 'billetlaw25.NetTurns': WHATEVER THE INPUT: true; the input reads as it did. -/
def netTurnsSpec : ChangeSpec := { name := "netTurns", fn := fun _ => fun
  | [d1, d2, d3] => { results := [.lit (.bool true)], args := [d1, d2, d3] }
  | _ => none }
def netTurnsRow : OpenClaim := { program := "ytbaljleimiflmaa", sum := "899922abc6436ae76782f5f160c65420b8b87681a6effefbeea8eccbc2dd9894", func := "billet/billetlaw25.NetTurns", spec := "netTurns", apart := false }
def NetTurnsSaid : Prop := netTurnsRow.holds Try.pinned (OpenSpec.ofChange netTurnsSpec)

/-- ITS FALSE NEIGHBOUR: 'it returns false'. Refute it at one input. -/
def netTurnsWrong : ChangeSpec := { name := "netTurns", fn := fun _ => fun
  | [d1, d2, d3] => { results := [.lit (.bool false)], args := [d1, d2, d3] }
  | _ => none }
def NetTurnsWrongFalsely : Prop := netTurnsRow.holds Try.pinned (OpenSpec.ofChange netTurnsWrong)

/- THE SECOND FORM. 'bulk': how many values and letters a reading holds, each counted each time it is reached (what is shared counts as often as it is met; a slice's spare places count too). A statement '..UptoSaid' is the law's where the arguments, and the package variables that the reading takes, are together of bulk at most 1048576: NARROWER than '..Said'. Prove '..Said' where nothing that the law and all that it calls make is longer than what came in: it says more and counts as full. Else prove '..UptoSaid'. A law counts once. -/
mutual
def uptoBulk {H : Type} : DataW H → Nat
  | .lit (.string bytes) => bytes.length + 1
  | .lit _ => 1
  | .nil => 1
  | .ptr d => uptoBulk d + 1
  | .slice elems spare => uptoBulkAll elems + uptoBulkAll spare + 1
  | .agg parts => uptoBulkAll parts + 1
  | .iface _ d => uptoBulk d + 1
  | .map entries => uptoBulkEntries entries + 1
  | .held _ => 1
def uptoBulkAll {H : Type} : List (DataW H) → Nat
  | [] => 0
  | d :: r => uptoBulk d + uptoBulkAll r
def uptoBulkEntries {H : Type} : List (Lit × DataW H) → Nat
  | [] => 0
  | x :: r => uptoBulkEntry x + uptoBulkEntries r
def uptoBulkEntry {H : Type} : Lit × DataW H → Nat
  | (.string bytes, d) => bytes.length + uptoBulk d + 1
  | (_, d) => uptoBulk d + 1
 end
def uptoSmall : (H : Type) → List (DataW H) → Bool := fun _ ds => decide (uptoBulkAll ds ≤ 1048576)
def OpenSpec.upto (s : _root_.Go.ChangeSpec) : _root_.Go.OpenSpec := { _root_.Go.OpenSpec.ofChange s with cond := some uptoSmall }

/-- 'billetlaw20.ClockTells', WHERE WHAT IT READS IS OF BULK AT MOST 1048576: true; the input reads as it did. -/
def clockTellsUptoRow : OpenClaim := { program := "ytbaljleimiflmaa", sum := "899922abc6436ae76782f5f160c65420b8b87681a6effefbeea8eccbc2dd9894", func := "billet/billetlaw20.ClockTells", spec := "clockTells", apart := false, narrowed := true }
def ClockTellsUptoSaid : Prop := clockTellsUptoRow.holds Try.pinned (OpenSpec.upto clockTellsSpec)

/-- 'billetlaw20.ClockOver', WHERE WHAT IT READS IS OF BULK AT MOST 1048576: true; the input reads as it did. -/
def clockOverUptoRow : OpenClaim := { program := "ytbaljleimiflmaa", sum := "899922abc6436ae76782f5f160c65420b8b87681a6effefbeea8eccbc2dd9894", func := "billet/billetlaw20.ClockOver", spec := "clockOver", apart := false, narrowed := true }
def ClockOverUptoSaid : Prop := clockOverUptoRow.holds Try.pinned (OpenSpec.upto clockOverSpec)

/-- 'billetlaw20.ClockEnds', WHERE WHAT IT READS IS OF BULK AT MOST 1048576: true; the input reads as it did. -/
def clockEndsUptoRow : OpenClaim := { program := "ytbaljleimiflmaa", sum := "899922abc6436ae76782f5f160c65420b8b87681a6effefbeea8eccbc2dd9894", func := "billet/billetlaw20.ClockEnds", spec := "clockEnds", apart := false, narrowed := true }
def ClockEndsUptoSaid : Prop := clockEndsUptoRow.holds Try.pinned (OpenSpec.upto clockEndsSpec)

/-- 'billetlaw26.SwapTells', WHERE WHAT IT READS IS OF BULK AT MOST 1048576: true; the input reads as it did. -/
def swapTellsUptoRow : OpenClaim := { program := "ytbaljleimiflmaa", sum := "899922abc6436ae76782f5f160c65420b8b87681a6effefbeea8eccbc2dd9894", func := "billet/billetlaw26.SwapTells", spec := "swapTells", apart := false, narrowed := true }
def SwapTellsUptoSaid : Prop := swapTellsUptoRow.holds Try.pinned (OpenSpec.upto swapTellsSpec)

/-- 'billetlaw26.SwapTurns', WHERE WHAT IT READS IS OF BULK AT MOST 1048576: true; the input reads as it did. -/
def swapTurnsUptoRow : OpenClaim := { program := "ytbaljleimiflmaa", sum := "899922abc6436ae76782f5f160c65420b8b87681a6effefbeea8eccbc2dd9894", func := "billet/billetlaw26.SwapTurns", spec := "swapTurns", apart := false, narrowed := true }
def SwapTurnsUptoSaid : Prop := swapTurnsUptoRow.holds Try.pinned (OpenSpec.upto swapTurnsSpec)

/-- 'billetlaw26.SwapNear', WHERE WHAT IT READS IS OF BULK AT MOST 1048576: true; the input reads as it did. -/
def swapNearUptoRow : OpenClaim := { program := "ytbaljleimiflmaa", sum := "899922abc6436ae76782f5f160c65420b8b87681a6effefbeea8eccbc2dd9894", func := "billet/billetlaw26.SwapNear", spec := "swapNear", apart := false, narrowed := true }
def SwapNearUptoSaid : Prop := swapNearUptoRow.holds Try.pinned (OpenSpec.upto swapNearSpec)

/-- 'billetlaw26.SwapAlone', WHERE WHAT IT READS IS OF BULK AT MOST 1048576: true; the input reads as it did. -/
def swapAloneUptoRow : OpenClaim := { program := "ytbaljleimiflmaa", sum := "899922abc6436ae76782f5f160c65420b8b87681a6effefbeea8eccbc2dd9894", func := "billet/billetlaw26.SwapAlone", spec := "swapAlone", apart := false, narrowed := true }
def SwapAloneUptoSaid : Prop := swapAloneUptoRow.holds Try.pinned (OpenSpec.upto swapAloneSpec)

/-- 'billetlaw25.NetTells', WHERE WHAT IT READS IS OF BULK AT MOST 1048576: true; the input reads as it did. -/
def netTellsUptoRow : OpenClaim := { program := "ytbaljleimiflmaa", sum := "899922abc6436ae76782f5f160c65420b8b87681a6effefbeea8eccbc2dd9894", func := "billet/billetlaw25.NetTells", spec := "netTells", apart := false, narrowed := true }
def NetTellsUptoSaid : Prop := netTellsUptoRow.holds Try.pinned (OpenSpec.upto netTellsSpec)

/-- 'billetlaw25.NetOrder', WHERE WHAT IT READS IS OF BULK AT MOST 1048576: true; the input reads as it did. -/
def netOrderUptoRow : OpenClaim := { program := "ytbaljleimiflmaa", sum := "899922abc6436ae76782f5f160c65420b8b87681a6effefbeea8eccbc2dd9894", func := "billet/billetlaw25.NetOrder", spec := "netOrder", apart := false, narrowed := true }
def NetOrderUptoSaid : Prop := netOrderUptoRow.holds Try.pinned (OpenSpec.upto netOrderSpec)

/-- 'billetlaw25.NetNone', WHERE WHAT IT READS IS OF BULK AT MOST 1048576: true; the input reads as it did. -/
def netNoneUptoRow : OpenClaim := { program := "ytbaljleimiflmaa", sum := "899922abc6436ae76782f5f160c65420b8b87681a6effefbeea8eccbc2dd9894", func := "billet/billetlaw25.NetNone", spec := "netNone", apart := false, narrowed := true }
def NetNoneUptoSaid : Prop := netNoneUptoRow.holds Try.pinned (OpenSpec.upto netNoneSpec)

/-- 'billetlaw25.NetTurns', WHERE WHAT IT READS IS OF BULK AT MOST 1048576: true; the input reads as it did. -/
def netTurnsUptoRow : OpenClaim := { program := "ytbaljleimiflmaa", sum := "899922abc6436ae76782f5f160c65420b8b87681a6effefbeea8eccbc2dd9894", func := "billet/billetlaw25.NetTurns", spec := "netTurns", apart := false, narrowed := true }
def NetTurnsUptoSaid : Prop := netTurnsUptoRow.holds Try.pinned (OpenSpec.upto netTurnsSpec)

end Rows
end Go.Proofs.Ytbaljleimiflmaa
