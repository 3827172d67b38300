/-
  No cell of these rows narrows 'for every input' (looked for: loops, veiled, ifaces, maps, wideKeys, modest, calm, conditions, laid).
  DERIVED. THE GIVEN ROWS OF THIS SEAT. 7 by the template 'for every input the law returns true; each argument reads behind the call as it read before'; 0 by the template 'total and deterministic' (their statements: YtjjfpkfpmpeikaaTotals.lean).
  GIVEN WITH THE SEED: the statements are not yours to turn. If you find one false, say at which input.
  Laid BY PROGRAM, IN A SANDBOX (cutbox-rows.mjs): the forced cells as the released guide's own fill.sh prints them over the translation a5c251fb50e02f7b… (all of the seat's roots in one cut). By AI agents, Wed Nov 11 2026. No macro, syntax, notation, axiom, sorry.
-/
import Derived.Test.YtjjfpkfpmpeikaaChecked
import GoSem.Claim
import GoSem.ClaimJoined
import GoSem.ClaimMapViews
import Derived.JoinedTies
import Derived.KernelRfl
namespace Go.Proofs.Ytjjfpkfpmpeikaa
/- THE CELL 'sum', in the pinned program and in every row, IS THE sha256 OF THE DUMP (.gsa) THAT YtjjfpkfpmpeikaaProg.lean LOADS. Nothing in Lean hashes anything: it is a label: what it is worth is what the hold of that sum in a sandbox is worth. -/
noncomputable def Try.pinned : Pinned := { name := "ytjjfpkfpmpeikaa", sum := "a5c251fb50e02f7b1e4c0f455ce6aa9ed747fc4a706afff1585cd135188fd0c2", checked := Try.checked }
namespace Rows
def none {H : Type} : Left H := { results := [], args := [] }

/-- 'tollbarlaw14.Cycles': WHATEVER THE INPUT: true; the input reads as it did. -/
def cyclesSpec : ChangeSpec := { name := "cycles", fn := fun _ => fun
  | [d1, d2] => { results := [.lit (.bool true)], args := [d1, d2] }
  | _ => none }
def cyclesRow : OpenClaim := { program := "ytjjfpkfpmpeikaa", sum := "a5c251fb50e02f7b1e4c0f455ce6aa9ed747fc4a706afff1585cd135188fd0c2", func := "tollbar/tollbarlaw14.Cycles", spec := "cycles", apart := false }
def CyclesSaid : Prop := cyclesRow.holds Try.pinned (OpenSpec.ofChange cyclesSpec)

/-- ITS FALSE NEIGHBOUR: 'it returns false'. Refute it at one input. -/
def cyclesWrong : ChangeSpec := { name := "cycles", fn := fun _ => fun
  | [d1, d2] => { results := [.lit (.bool false)], args := [d1, d2] }
  | _ => none }
def CyclesWrongFalsely : Prop := cyclesRow.holds Try.pinned (OpenSpec.ofChange cyclesWrong)

/-- 'tollbarlaw14.CycleCancels': WHATEVER THE INPUT: true; the input reads as it did. -/
def cycleCancelsSpec : ChangeSpec := { name := "cycleCancels", fn := fun _ => fun
  | [d1, d2] => { results := [.lit (.bool true)], args := [d1, d2] }
  | _ => none }
def cycleCancelsRow : OpenClaim := { program := "ytjjfpkfpmpeikaa", sum := "a5c251fb50e02f7b1e4c0f455ce6aa9ed747fc4a706afff1585cd135188fd0c2", func := "tollbar/tollbarlaw14.CycleCancels", spec := "cycleCancels", apart := false }
def CycleCancelsSaid : Prop := cycleCancelsRow.holds Try.pinned (OpenSpec.ofChange cycleCancelsSpec)

/-- ITS FALSE NEIGHBOUR: 'it returns false'. Refute it at one input. -/
def cycleCancelsWrong : ChangeSpec := { name := "cycleCancels", fn := fun _ => fun
  | [d1, d2] => { results := [.lit (.bool false)], args := [d1, d2] }
  | _ => none }
def CycleCancelsWrongFalsely : Prop := cycleCancelsRow.holds Try.pinned (OpenSpec.ofChange cycleCancelsWrong)

/-- 'tollbarlaw14.CycleLeaves': WHATEVER THE INPUT: true; the input reads as it did. -/
def cycleLeavesSpec : ChangeSpec := { name := "cycleLeaves", fn := fun _ => fun
  | [d1, d2] => { results := [.lit (.bool true)], args := [d1, d2] }
  | _ => none }
def cycleLeavesRow : OpenClaim := { program := "ytjjfpkfpmpeikaa", sum := "a5c251fb50e02f7b1e4c0f455ce6aa9ed747fc4a706afff1585cd135188fd0c2", func := "tollbar/tollbarlaw14.CycleLeaves", spec := "cycleLeaves", apart := false }
def CycleLeavesSaid : Prop := cycleLeavesRow.holds Try.pinned (OpenSpec.ofChange cycleLeavesSpec)

/-- ITS FALSE NEIGHBOUR: 'it returns false'. Refute it at one input. -/
def cycleLeavesWrong : ChangeSpec := { name := "cycleLeaves", fn := fun _ => fun
  | [d1, d2] => { results := [.lit (.bool false)], args := [d1, d2] }
  | _ => none }
def CycleLeavesWrongFalsely : Prop := cycleLeavesRow.holds Try.pinned (OpenSpec.ofChange cycleLeavesWrong)

/-- 'tollbarlaw14.CycleFlows': WHATEVER THE INPUT: true; the input reads as it did. -/
def cycleFlowsSpec : ChangeSpec := { name := "cycleFlows", fn := fun _ => fun
  | [d1, d2, d3, d4, d5] => { results := [.lit (.bool true)], args := [d1, d2, d3, d4, d5] }
  | _ => none }
def cycleFlowsRow : OpenClaim := { program := "ytjjfpkfpmpeikaa", sum := "a5c251fb50e02f7b1e4c0f455ce6aa9ed747fc4a706afff1585cd135188fd0c2", func := "tollbar/tollbarlaw14.CycleFlows", spec := "cycleFlows", apart := false }
def CycleFlowsSaid : Prop := cycleFlowsRow.holds Try.pinned (OpenSpec.ofChange cycleFlowsSpec)

/-- ITS FALSE NEIGHBOUR: 'it returns false'. Refute it at one input. -/
def cycleFlowsWrong : ChangeSpec := { name := "cycleFlows", fn := fun _ => fun
  | [d1, d2, d3, d4, d5] => { results := [.lit (.bool false)], args := [d1, d2, d3, d4, d5] }
  | _ => none }
def CycleFlowsWrongFalsely : Prop := cycleFlowsRow.holds Try.pinned (OpenSpec.ofChange cycleFlowsWrong)

/-- 'tollbarlaw14.CycleTurned': WHATEVER THE INPUT: true; the input reads as it did. -/
def cycleTurnedSpec : ChangeSpec := { name := "cycleTurned", fn := fun _ => fun
  | [d1, d2] => { results := [.lit (.bool true)], args := [d1, d2] }
  | _ => none }
def cycleTurnedRow : OpenClaim := { program := "ytjjfpkfpmpeikaa", sum := "a5c251fb50e02f7b1e4c0f455ce6aa9ed747fc4a706afff1585cd135188fd0c2", func := "tollbar/tollbarlaw14.CycleTurned", spec := "cycleTurned", apart := false }
def CycleTurnedSaid : Prop := cycleTurnedRow.holds Try.pinned (OpenSpec.ofChange cycleTurnedSpec)

/-- ITS FALSE NEIGHBOUR: 'it returns false'. Refute it at one input. -/
def cycleTurnedWrong : ChangeSpec := { name := "cycleTurned", fn := fun _ => fun
  | [d1, d2] => { results := [.lit (.bool false)], args := [d1, d2] }
  | _ => none }
def CycleTurnedWrongFalsely : Prop := cycleTurnedRow.holds Try.pinned (OpenSpec.ofChange cycleTurnedWrong)

/-- 'tollbarlaw13.Reaches': WHATEVER THE INPUT: true; the input reads as it did. -/
def reachesSpec : ChangeSpec := { name := "reaches", fn := fun _ => fun
  | [d1, d2, d3, d4, d5] => { results := [.lit (.bool true)], args := [d1, d2, d3, d4, d5] }
  | _ => none }
def reachesRow : OpenClaim := { program := "ytjjfpkfpmpeikaa", sum := "a5c251fb50e02f7b1e4c0f455ce6aa9ed747fc4a706afff1585cd135188fd0c2", func := "tollbar/tollbarlaw13.Reaches", spec := "reaches", apart := false }
def ReachesSaid : Prop := reachesRow.holds Try.pinned (OpenSpec.ofChange reachesSpec)

/-- ITS FALSE NEIGHBOUR: 'it returns false'. Refute it at one input. -/
def reachesWrong : ChangeSpec := { name := "reaches", fn := fun _ => fun
  | [d1, d2, d3, d4, d5] => { results := [.lit (.bool false)], args := [d1, d2, d3, d4, d5] }
  | _ => none }
def ReachesWrongFalsely : Prop := reachesRow.holds Try.pinned (OpenSpec.ofChange reachesWrong)

/-- 'tollbarlaw13.ReachEmpty': WHATEVER THE INPUT: true; the input reads as it did. -/
def reachEmptySpec : ChangeSpec := { name := "reachEmpty", fn := fun _ => fun
  | [d1, d2, d3] => { results := [.lit (.bool true)], args := [d1, d2, d3] }
  | _ => none }
def reachEmptyRow : OpenClaim := { program := "ytjjfpkfpmpeikaa", sum := "a5c251fb50e02f7b1e4c0f455ce6aa9ed747fc4a706afff1585cd135188fd0c2", func := "tollbar/tollbarlaw13.ReachEmpty", spec := "reachEmpty", apart := false }
def ReachEmptySaid : Prop := reachEmptyRow.holds Try.pinned (OpenSpec.ofChange reachEmptySpec)

/-- ITS FALSE NEIGHBOUR: 'it returns false'. Refute it at one input. -/
def reachEmptyWrong : ChangeSpec := { name := "reachEmpty", fn := fun _ => fun
  | [d1, d2, d3] => { results := [.lit (.bool false)], args := [d1, d2, d3] }
  | _ => none }
def ReachEmptyWrongFalsely : Prop := reachEmptyRow.holds Try.pinned (OpenSpec.ofChange reachEmptyWrong)

/- THE SECOND FORM. 'bulk': how many values and letters a reading holds, each counted each time it is reached (what is shared counts as often as it is met; a slice's spare places count too). A statement '..UptoSaid' is the law's where the arguments, and the package variables that the reading takes, are together of bulk at most 1048576: NARROWER than '..Said'. Prove '..Said' where nothing that the law and all that it calls make is longer than what came in: it says more and counts as full. Else prove '..UptoSaid'. A law counts once. -/
mutual
def uptoBulk {H : Type} : DataW H → Nat
  | .lit (.string bytes) => bytes.length + 1
  | .lit _ => 1
  | .nil => 1
  | .ptr d => uptoBulk d + 1
  | .slice elems spare => uptoBulkAll elems + uptoBulkAll spare + 1
  | .agg parts => uptoBulkAll parts + 1
  | .iface _ d => uptoBulk d + 1
  | .map entries => uptoBulkEntries entries + 1
  | .held _ => 1
def uptoBulkAll {H : Type} : List (DataW H) → Nat
  | [] => 0
  | d :: r => uptoBulk d + uptoBulkAll r
def uptoBulkEntries {H : Type} : List (Lit × DataW H) → Nat
  | [] => 0
  | x :: r => uptoBulkEntry x + uptoBulkEntries r
def uptoBulkEntry {H : Type} : Lit × DataW H → Nat
  | (.string bytes, d) => bytes.length + uptoBulk d + 1
  | (_, d) => uptoBulk d + 1
 end
def uptoSmall : (H : Type) → List (DataW H) → Bool := fun _ ds => decide (uptoBulkAll ds ≤ 1048576)
def OpenSpec.upto (s : _root_.Go.ChangeSpec) : _root_.Go.OpenSpec := { _root_.Go.OpenSpec.ofChange s with cond := some uptoSmall }

/-- 'tollbarlaw14.Cycles', WHERE WHAT IT READS IS OF BULK AT MOST 1048576: true; the input reads as it did. -/
def cyclesUptoRow : OpenClaim := { program := "ytjjfpkfpmpeikaa", sum := "a5c251fb50e02f7b1e4c0f455ce6aa9ed747fc4a706afff1585cd135188fd0c2", func := "tollbar/tollbarlaw14.Cycles", spec := "cycles", apart := false, narrowed := true }
def CyclesUptoSaid : Prop := cyclesUptoRow.holds Try.pinned (OpenSpec.upto cyclesSpec)

/-- 'tollbarlaw14.CycleCancels', WHERE WHAT IT READS IS OF BULK AT MOST 1048576: true; the input reads as it did. -/
def cycleCancelsUptoRow : OpenClaim := { program := "ytjjfpkfpmpeikaa", sum := "a5c251fb50e02f7b1e4c0f455ce6aa9ed747fc4a706afff1585cd135188fd0c2", func := "tollbar/tollbarlaw14.CycleCancels", spec := "cycleCancels", apart := false, narrowed := true }
def CycleCancelsUptoSaid : Prop := cycleCancelsUptoRow.holds Try.pinned (OpenSpec.upto cycleCancelsSpec)

/-- 'tollbarlaw14.CycleLeaves', WHERE WHAT IT READS IS OF BULK AT MOST 1048576: true; the input reads as it did. -/
def cycleLeavesUptoRow : OpenClaim := { program := "ytjjfpkfpmpeikaa", sum := "a5c251fb50e02f7b1e4c0f455ce6aa9ed747fc4a706afff1585cd135188fd0c2", func := "tollbar/tollbarlaw14.CycleLeaves", spec := "cycleLeaves", apart := false, narrowed := true }
def CycleLeavesUptoSaid : Prop := cycleLeavesUptoRow.holds Try.pinned (OpenSpec.upto cycleLeavesSpec)

/-- 'tollbarlaw14.CycleFlows', WHERE WHAT IT READS IS OF BULK AT MOST 1048576: true; the input reads as it did. -/
def cycleFlowsUptoRow : OpenClaim := { program := "ytjjfpkfpmpeikaa", sum := "a5c251fb50e02f7b1e4c0f455ce6aa9ed747fc4a706afff1585cd135188fd0c2", func := "tollbar/tollbarlaw14.CycleFlows", spec := "cycleFlows", apart := false, narrowed := true }
def CycleFlowsUptoSaid : Prop := cycleFlowsUptoRow.holds Try.pinned (OpenSpec.upto cycleFlowsSpec)

/-- 'tollbarlaw14.CycleTurned', WHERE WHAT IT READS IS OF BULK AT MOST 1048576: true; the input reads as it did. -/
def cycleTurnedUptoRow : OpenClaim := { program := "ytjjfpkfpmpeikaa", sum := "a5c251fb50e02f7b1e4c0f455ce6aa9ed747fc4a706afff1585cd135188fd0c2", func := "tollbar/tollbarlaw14.CycleTurned", spec := "cycleTurned", apart := false, narrowed := true }
def CycleTurnedUptoSaid : Prop := cycleTurnedUptoRow.holds Try.pinned (OpenSpec.upto cycleTurnedSpec)

/-- 'tollbarlaw13.Reaches', WHERE WHAT IT READS IS OF BULK AT MOST 1048576: true; the input reads as it did. -/
def reachesUptoRow : OpenClaim := { program := "ytjjfpkfpmpeikaa", sum := "a5c251fb50e02f7b1e4c0f455ce6aa9ed747fc4a706afff1585cd135188fd0c2", func := "tollbar/tollbarlaw13.Reaches", spec := "reaches", apart := false, narrowed := true }
def ReachesUptoSaid : Prop := reachesUptoRow.holds Try.pinned (OpenSpec.upto reachesSpec)

/-- 'tollbarlaw13.ReachEmpty', WHERE WHAT IT READS IS OF BULK AT MOST 1048576: true; the input reads as it did. -/
def reachEmptyUptoRow : OpenClaim := { program := "ytjjfpkfpmpeikaa", sum := "a5c251fb50e02f7b1e4c0f455ce6aa9ed747fc4a706afff1585cd135188fd0c2", func := "tollbar/tollbarlaw13.ReachEmpty", spec := "reachEmpty", apart := false, narrowed := true }
def ReachEmptyUptoSaid : Prop := reachEmptyUptoRow.holds Try.pinned (OpenSpec.upto reachEmptySpec)

end Rows
end Go.Proofs.Ytjjfpkfpmpeikaa
