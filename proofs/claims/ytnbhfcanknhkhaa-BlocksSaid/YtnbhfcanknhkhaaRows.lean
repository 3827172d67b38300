/-
  No cell of these rows narrows 'for every input' (looked for: loops, veiled, ifaces, maps, wideKeys, modest, calm, conditions, laid).
  DERIVED. THE GIVEN ROWS OF THIS SEAT. 11 by the template 'for every input the law returns true; each argument reads behind the call as it read before'; 0 by the template 'total and deterministic' (their statements: YtnbhfcanknhkhaaTotals.lean).
  GIVEN WITH THE SEED: the statements are not yours to turn. If you find one false, say at which input.
  Laid BY PROGRAM, IN A SANDBOX (cutbox-rows.mjs): the forced cells as the released guide's own fill.sh prints them over the translation 9a2d49136e0e9bb6… (all of the seat's roots in one cut). By AI agents, Wed Nov 11 2026. No macro, syntax, notation, axiom, sorry.
-/
import Derived.Test.YtnbhfcanknhkhaaChecked
import GoSem.Claim
import GoSem.ClaimJoined
import GoSem.ClaimMapViews
import Derived.JoinedTies
import Derived.KernelRfl
namespace Go.Proofs.Ytnbhfcanknhkhaa
/- THE CELL 'sum', in the pinned program and in every row, IS THE sha256 OF THE DUMP (.gsa) THAT YtnbhfcanknhkhaaProg.lean LOADS. Nothing in Lean hashes anything: it is a label: what it is worth is what the hold of that sum in a sandbox is worth. -/
noncomputable def Try.pinned : Pinned := { name := "ytnbhfcanknhkhaa", sum := "9a2d49136e0e9bb64673459165890cb73310211f497aa94da14b1ef248d74e73", checked := Try.checked }
namespace Rows
def none {H : Type} : Left H := { results := [], args := [] }

/-- 'tollbarlaw11.Blocks': WHATEVER THE INPUT: true; the input reads as it did. -/
def blocksSpec : ChangeSpec := { name := "blocks", fn := fun _ => fun
  | [d1, d2, d3, d4, d5, d6] => { results := [.lit (.bool true)], args := [d1, d2, d3, d4, d5, d6] }
  | _ => none }
def blocksRow : OpenClaim := { program := "ytnbhfcanknhkhaa", sum := "9a2d49136e0e9bb64673459165890cb73310211f497aa94da14b1ef248d74e73", func := "tollbar/tollbarlaw11.Blocks", spec := "blocks", apart := false }
def BlocksSaid : Prop := blocksRow.holds Try.pinned (OpenSpec.ofChange blocksSpec)

/-- ITS FALSE NEIGHBOUR: 'it returns false'. Refute it at one input. -/
def blocksWrong : ChangeSpec := { name := "blocks", fn := fun _ => fun
  | [d1, d2, d3, d4, d5, d6] => { results := [.lit (.bool false)], args := [d1, d2, d3, d4, d5, d6] }
  | _ => none }
def BlocksWrongFalsely : Prop := blocksRow.holds Try.pinned (OpenSpec.ofChange blocksWrong)

/-- 'tollbarlaw11.BlockDeeper': WHATEVER THE INPUT: true; the input reads as it did. -/
def blockDeeperSpec : ChangeSpec := { name := "blockDeeper", fn := fun _ => fun
  | [d1, d2, d3, d4, d5, d6] => { results := [.lit (.bool true)], args := [d1, d2, d3, d4, d5, d6] }
  | _ => none }
def blockDeeperRow : OpenClaim := { program := "ytnbhfcanknhkhaa", sum := "9a2d49136e0e9bb64673459165890cb73310211f497aa94da14b1ef248d74e73", func := "tollbar/tollbarlaw11.BlockDeeper", spec := "blockDeeper", apart := false }
def BlockDeeperSaid : Prop := blockDeeperRow.holds Try.pinned (OpenSpec.ofChange blockDeeperSpec)

/-- ITS FALSE NEIGHBOUR: 'it returns false'. Refute it at one input. -/
def blockDeeperWrong : ChangeSpec := { name := "blockDeeper", fn := fun _ => fun
  | [d1, d2, d3, d4, d5, d6] => { results := [.lit (.bool false)], args := [d1, d2, d3, d4, d5, d6] }
  | _ => none }
def BlockDeeperWrongFalsely : Prop := blockDeeperRow.holds Try.pinned (OpenSpec.ofChange blockDeeperWrong)

/-- 'tollbarlaw11.BlockShut': WHATEVER THE INPUT: true; the input reads as it did. -/
def blockShutSpec : ChangeSpec := { name := "blockShut", fn := fun _ => fun
  | [d1, d2, d3, d4, d5, d6] => { results := [.lit (.bool true)], args := [d1, d2, d3, d4, d5, d6] }
  | _ => none }
def blockShutRow : OpenClaim := { program := "ytnbhfcanknhkhaa", sum := "9a2d49136e0e9bb64673459165890cb73310211f497aa94da14b1ef248d74e73", func := "tollbar/tollbarlaw11.BlockShut", spec := "blockShut", apart := false }
def BlockShutSaid : Prop := blockShutRow.holds Try.pinned (OpenSpec.ofChange blockShutSpec)

/-- ITS FALSE NEIGHBOUR: 'it returns false'. Refute it at one input. -/
def blockShutWrong : ChangeSpec := { name := "blockShut", fn := fun _ => fun
  | [d1, d2, d3, d4, d5, d6] => { results := [.lit (.bool false)], args := [d1, d2, d3, d4, d5, d6] }
  | _ => none }
def BlockShutWrongFalsely : Prop := blockShutRow.holds Try.pinned (OpenSpec.ofChange blockShutWrong)

/-- 'tollbarlaw11.BlockRounds': WHATEVER THE INPUT: true; the input reads as it did. -/
def blockRoundsSpec : ChangeSpec := { name := "blockRounds", fn := fun _ => fun
  | [d1, d2, d3, d4] => { results := [.lit (.bool true)], args := [d1, d2, d3, d4] }
  | _ => none }
def blockRoundsRow : OpenClaim := { program := "ytnbhfcanknhkhaa", sum := "9a2d49136e0e9bb64673459165890cb73310211f497aa94da14b1ef248d74e73", func := "tollbar/tollbarlaw11.BlockRounds", spec := "blockRounds", apart := false }
def BlockRoundsSaid : Prop := blockRoundsRow.holds Try.pinned (OpenSpec.ofChange blockRoundsSpec)

/-- ITS FALSE NEIGHBOUR: 'it returns false'. Refute it at one input. -/
def blockRoundsWrong : ChangeSpec := { name := "blockRounds", fn := fun _ => fun
  | [d1, d2, d3, d4] => { results := [.lit (.bool false)], args := [d1, d2, d3, d4] }
  | _ => none }
def BlockRoundsWrongFalsely : Prop := blockRoundsRow.holds Try.pinned (OpenSpec.ofChange blockRoundsWrong)

/-- 'tollbarlaw11.BlockForms': WHATEVER THE INPUT: true; the input reads as it did. -/
def blockFormsSpec : ChangeSpec := { name := "blockForms", fn := fun _ => fun
  | [d1, d2] => { results := [.lit (.bool true)], args := [d1, d2] }
  | _ => none }
def blockFormsRow : OpenClaim := { program := "ytnbhfcanknhkhaa", sum := "9a2d49136e0e9bb64673459165890cb73310211f497aa94da14b1ef248d74e73", func := "tollbar/tollbarlaw11.BlockForms", spec := "blockForms", apart := false }
def BlockFormsSaid : Prop := blockFormsRow.holds Try.pinned (OpenSpec.ofChange blockFormsSpec)

/-- ITS FALSE NEIGHBOUR: 'it returns false'. Refute it at one input. -/
def blockFormsWrong : ChangeSpec := { name := "blockForms", fn := fun _ => fun
  | [d1, d2] => { results := [.lit (.bool false)], args := [d1, d2] }
  | _ => none }
def BlockFormsWrongFalsely : Prop := blockFormsRow.holds Try.pinned (OpenSpec.ofChange blockFormsWrong)

/-- 'tollbarlaw12.Pushes': WHATEVER THE INPUT: true; the input reads as it did. -/
def pushesSpec : ChangeSpec := { name := "pushes", fn := fun _ => fun
  | [d1, d2, d3, d4, d5] => { results := [.lit (.bool true)], args := [d1, d2, d3, d4, d5] }
  | _ => none }
def pushesRow : OpenClaim := { program := "ytnbhfcanknhkhaa", sum := "9a2d49136e0e9bb64673459165890cb73310211f497aa94da14b1ef248d74e73", func := "tollbar/tollbarlaw12.Pushes", spec := "pushes", apart := false }
def PushesSaid : Prop := pushesRow.holds Try.pinned (OpenSpec.ofChange pushesSpec)

/-- ITS FALSE NEIGHBOUR: 'it returns false'. Refute it at one input. -/
def pushesWrong : ChangeSpec := { name := "pushes", fn := fun _ => fun
  | [d1, d2, d3, d4, d5] => { results := [.lit (.bool false)], args := [d1, d2, d3, d4, d5] }
  | _ => none }
def PushesWrongFalsely : Prop := pushesRow.holds Try.pinned (OpenSpec.ofChange pushesWrong)

/-- 'tollbarlaw12.PushShut': WHATEVER THE INPUT: true; the input reads as it did. -/
def pushShutSpec : ChangeSpec := { name := "pushShut", fn := fun _ => fun
  | [d1, d2, d3, d4, d5] => { results := [.lit (.bool true)], args := [d1, d2, d3, d4, d5] }
  | _ => none }
def pushShutRow : OpenClaim := { program := "ytnbhfcanknhkhaa", sum := "9a2d49136e0e9bb64673459165890cb73310211f497aa94da14b1ef248d74e73", func := "tollbar/tollbarlaw12.PushShut", spec := "pushShut", apart := false }
def PushShutSaid : Prop := pushShutRow.holds Try.pinned (OpenSpec.ofChange pushShutSpec)

/-- ITS FALSE NEIGHBOUR: 'it returns false'. Refute it at one input. -/
def pushShutWrong : ChangeSpec := { name := "pushShut", fn := fun _ => fun
  | [d1, d2, d3, d4, d5] => { results := [.lit (.bool false)], args := [d1, d2, d3, d4, d5] }
  | _ => none }
def PushShutWrongFalsely : Prop := pushShutRow.holds Try.pinned (OpenSpec.ofChange pushShutWrong)

/-- 'tollbarlaw12.PushMore': WHATEVER THE INPUT: true; the input reads as it did. -/
def pushMoreSpec : ChangeSpec := { name := "pushMore", fn := fun _ => fun
  | [d1, d2, d3, d4, d5, d6] => { results := [.lit (.bool true)], args := [d1, d2, d3, d4, d5, d6] }
  | _ => none }
def pushMoreRow : OpenClaim := { program := "ytnbhfcanknhkhaa", sum := "9a2d49136e0e9bb64673459165890cb73310211f497aa94da14b1ef248d74e73", func := "tollbar/tollbarlaw12.PushMore", spec := "pushMore", apart := false }
def PushMoreSaid : Prop := pushMoreRow.holds Try.pinned (OpenSpec.ofChange pushMoreSpec)

/-- ITS FALSE NEIGHBOUR: 'it returns false'. Refute it at one input. -/
def pushMoreWrong : ChangeSpec := { name := "pushMore", fn := fun _ => fun
  | [d1, d2, d3, d4, d5, d6] => { results := [.lit (.bool false)], args := [d1, d2, d3, d4, d5, d6] }
  | _ => none }
def PushMoreWrongFalsely : Prop := pushMoreRow.holds Try.pinned (OpenSpec.ofChange pushMoreWrong)

/-- 'tollbarlaw12.PushTurned': WHATEVER THE INPUT: true; the input reads as it did. -/
def pushTurnedSpec : ChangeSpec := { name := "pushTurned", fn := fun _ => fun
  | [d1, d2, d3, d4, d5] => { results := [.lit (.bool true)], args := [d1, d2, d3, d4, d5] }
  | _ => none }
def pushTurnedRow : OpenClaim := { program := "ytnbhfcanknhkhaa", sum := "9a2d49136e0e9bb64673459165890cb73310211f497aa94da14b1ef248d74e73", func := "tollbar/tollbarlaw12.PushTurned", spec := "pushTurned", apart := false }
def PushTurnedSaid : Prop := pushTurnedRow.holds Try.pinned (OpenSpec.ofChange pushTurnedSpec)

/-- ITS FALSE NEIGHBOUR: 'it returns false'. Refute it at one input. -/
def pushTurnedWrong : ChangeSpec := { name := "pushTurned", fn := fun _ => fun
  | [d1, d2, d3, d4, d5] => { results := [.lit (.bool false)], args := [d1, d2, d3, d4, d5] }
  | _ => none }
def PushTurnedWrongFalsely : Prop := pushTurnedRow.holds Try.pinned (OpenSpec.ofChange pushTurnedWrong)

/-- 'tollbarlaw12.PushLess': WHATEVER THE INPUT: true; the input reads as it did. -/
def pushLessSpec : ChangeSpec := { name := "pushLess", fn := fun _ => fun
  | [d1, d2, d3, d4, d5, d6, d7] => { results := [.lit (.bool true)], args := [d1, d2, d3, d4, d5, d6, d7] }
  | _ => none }
def pushLessRow : OpenClaim := { program := "ytnbhfcanknhkhaa", sum := "9a2d49136e0e9bb64673459165890cb73310211f497aa94da14b1ef248d74e73", func := "tollbar/tollbarlaw12.PushLess", spec := "pushLess", apart := false }
def PushLessSaid : Prop := pushLessRow.holds Try.pinned (OpenSpec.ofChange pushLessSpec)

/-- ITS FALSE NEIGHBOUR: 'it returns false'. Refute it at one input. -/
def pushLessWrong : ChangeSpec := { name := "pushLess", fn := fun _ => fun
  | [d1, d2, d3, d4, d5, d6, d7] => { results := [.lit (.bool false)], args := [d1, d2, d3, d4, d5, d6, d7] }
  | _ => none }
def PushLessWrongFalsely : Prop := pushLessRow.holds Try.pinned (OpenSpec.ofChange pushLessWrong)

/-- 'tollbarlaw12.PushAll': WHATEVER THE INPUT: true; the input reads as it did. -/
def pushAllSpec : ChangeSpec := { name := "pushAll", fn := fun _ => fun
  | [d1, d2, d3, d4, d5] => { results := [.lit (.bool true)], args := [d1, d2, d3, d4, d5] }
  | _ => none }
def pushAllRow : OpenClaim := { program := "ytnbhfcanknhkhaa", sum := "9a2d49136e0e9bb64673459165890cb73310211f497aa94da14b1ef248d74e73", func := "tollbar/tollbarlaw12.PushAll", spec := "pushAll", apart := false }
def PushAllSaid : Prop := pushAllRow.holds Try.pinned (OpenSpec.ofChange pushAllSpec)

/-- ITS FALSE NEIGHBOUR: 'it returns false'. Refute it at one input. -/
def pushAllWrong : ChangeSpec := { name := "pushAll", fn := fun _ => fun
  | [d1, d2, d3, d4, d5] => { results := [.lit (.bool false)], args := [d1, d2, d3, d4, d5] }
  | _ => none }
def PushAllWrongFalsely : Prop := pushAllRow.holds Try.pinned (OpenSpec.ofChange pushAllWrong)

/- THE SECOND FORM. 'bulk': how many values and letters a reading holds, each counted each time it is reached (what is shared counts as often as it is met; a slice's spare places count too). A statement '..UptoSaid' is the law's where the arguments, and the package variables that the reading takes, are together of bulk at most 1048576: NARROWER than '..Said'. Prove '..Said' where nothing that the law and all that it calls make is longer than what came in: it says more and counts as full. Else prove '..UptoSaid'. A law counts once. -/
mutual
def uptoBulk {H : Type} : DataW H → Nat
  | .lit (.string bytes) => bytes.length + 1
  | .lit _ => 1
  | .nil => 1
  | .ptr d => uptoBulk d + 1
  | .slice elems spare => uptoBulkAll elems + uptoBulkAll spare + 1
  | .agg parts => uptoBulkAll parts + 1
  | .iface _ d => uptoBulk d + 1
  | .map entries => uptoBulkEntries entries + 1
  | .held _ => 1
def uptoBulkAll {H : Type} : List (DataW H) → Nat
  | [] => 0
  | d :: r => uptoBulk d + uptoBulkAll r
def uptoBulkEntries {H : Type} : List (Lit × DataW H) → Nat
  | [] => 0
  | x :: r => uptoBulkEntry x + uptoBulkEntries r
def uptoBulkEntry {H : Type} : Lit × DataW H → Nat
  | (.string bytes, d) => bytes.length + uptoBulk d + 1
  | (_, d) => uptoBulk d + 1
 end
def uptoSmall : (H : Type) → List (DataW H) → Bool := fun _ ds => decide (uptoBulkAll ds ≤ 1048576)
def OpenSpec.upto (s : _root_.Go.ChangeSpec) : _root_.Go.OpenSpec := { _root_.Go.OpenSpec.ofChange s with cond := some uptoSmall }

/-- 'tollbarlaw11.Blocks', WHERE WHAT IT READS IS OF BULK AT MOST 1048576: true; the input reads as it did. -/
def blocksUptoRow : OpenClaim := { program := "ytnbhfcanknhkhaa", sum := "9a2d49136e0e9bb64673459165890cb73310211f497aa94da14b1ef248d74e73", func := "tollbar/tollbarlaw11.Blocks", spec := "blocks", apart := false, narrowed := true }
def BlocksUptoSaid : Prop := blocksUptoRow.holds Try.pinned (OpenSpec.upto blocksSpec)

/-- 'tollbarlaw11.BlockDeeper', WHERE WHAT IT READS IS OF BULK AT MOST 1048576: true; the input reads as it did. -/
def blockDeeperUptoRow : OpenClaim := { program := "ytnbhfcanknhkhaa", sum := "9a2d49136e0e9bb64673459165890cb73310211f497aa94da14b1ef248d74e73", func := "tollbar/tollbarlaw11.BlockDeeper", spec := "blockDeeper", apart := false, narrowed := true }
def BlockDeeperUptoSaid : Prop := blockDeeperUptoRow.holds Try.pinned (OpenSpec.upto blockDeeperSpec)

/-- 'tollbarlaw11.BlockShut', WHERE WHAT IT READS IS OF BULK AT MOST 1048576: true; the input reads as it did. -/
def blockShutUptoRow : OpenClaim := { program := "ytnbhfcanknhkhaa", sum := "9a2d49136e0e9bb64673459165890cb73310211f497aa94da14b1ef248d74e73", func := "tollbar/tollbarlaw11.BlockShut", spec := "blockShut", apart := false, narrowed := true }
def BlockShutUptoSaid : Prop := blockShutUptoRow.holds Try.pinned (OpenSpec.upto blockShutSpec)

/-- 'tollbarlaw11.BlockRounds', WHERE WHAT IT READS IS OF BULK AT MOST 1048576: true; the input reads as it did. -/
def blockRoundsUptoRow : OpenClaim := { program := "ytnbhfcanknhkhaa", sum := "9a2d49136e0e9bb64673459165890cb73310211f497aa94da14b1ef248d74e73", func := "tollbar/tollbarlaw11.BlockRounds", spec := "blockRounds", apart := false, narrowed := true }
def BlockRoundsUptoSaid : Prop := blockRoundsUptoRow.holds Try.pinned (OpenSpec.upto blockRoundsSpec)

/-- 'tollbarlaw11.BlockForms', WHERE WHAT IT READS IS OF BULK AT MOST 1048576: true; the input reads as it did. -/
def blockFormsUptoRow : OpenClaim := { program := "ytnbhfcanknhkhaa", sum := "9a2d49136e0e9bb64673459165890cb73310211f497aa94da14b1ef248d74e73", func := "tollbar/tollbarlaw11.BlockForms", spec := "blockForms", apart := false, narrowed := true }
def BlockFormsUptoSaid : Prop := blockFormsUptoRow.holds Try.pinned (OpenSpec.upto blockFormsSpec)

/-- 'tollbarlaw12.Pushes', WHERE WHAT IT READS IS OF BULK AT MOST 1048576: true; the input reads as it did. -/
def pushesUptoRow : OpenClaim := { program := "ytnbhfcanknhkhaa", sum := "9a2d49136e0e9bb64673459165890cb73310211f497aa94da14b1ef248d74e73", func := "tollbar/tollbarlaw12.Pushes", spec := "pushes", apart := false, narrowed := true }
def PushesUptoSaid : Prop := pushesUptoRow.holds Try.pinned (OpenSpec.upto pushesSpec)

/-- 'tollbarlaw12.PushShut', WHERE WHAT IT READS IS OF BULK AT MOST 1048576: true; the input reads as it did. -/
def pushShutUptoRow : OpenClaim := { program := "ytnbhfcanknhkhaa", sum := "9a2d49136e0e9bb64673459165890cb73310211f497aa94da14b1ef248d74e73", func := "tollbar/tollbarlaw12.PushShut", spec := "pushShut", apart := false, narrowed := true }
def PushShutUptoSaid : Prop := pushShutUptoRow.holds Try.pinned (OpenSpec.upto pushShutSpec)

/-- 'tollbarlaw12.PushMore', WHERE WHAT IT READS IS OF BULK AT MOST 1048576: true; the input reads as it did. -/
def pushMoreUptoRow : OpenClaim := { program := "ytnbhfcanknhkhaa", sum := "9a2d49136e0e9bb64673459165890cb73310211f497aa94da14b1ef248d74e73", func := "tollbar/tollbarlaw12.PushMore", spec := "pushMore", apart := false, narrowed := true }
def PushMoreUptoSaid : Prop := pushMoreUptoRow.holds Try.pinned (OpenSpec.upto pushMoreSpec)

/-- 'tollbarlaw12.PushTurned', WHERE WHAT IT READS IS OF BULK AT MOST 1048576: true; the input reads as it did. -/
def pushTurnedUptoRow : OpenClaim := { program := "ytnbhfcanknhkhaa", sum := "9a2d49136e0e9bb64673459165890cb73310211f497aa94da14b1ef248d74e73", func := "tollbar/tollbarlaw12.PushTurned", spec := "pushTurned", apart := false, narrowed := true }
def PushTurnedUptoSaid : Prop := pushTurnedUptoRow.holds Try.pinned (OpenSpec.upto pushTurnedSpec)

/-- 'tollbarlaw12.PushLess', WHERE WHAT IT READS IS OF BULK AT MOST 1048576: true; the input reads as it did. -/
def pushLessUptoRow : OpenClaim := { program := "ytnbhfcanknhkhaa", sum := "9a2d49136e0e9bb64673459165890cb73310211f497aa94da14b1ef248d74e73", func := "tollbar/tollbarlaw12.PushLess", spec := "pushLess", apart := false, narrowed := true }
def PushLessUptoSaid : Prop := pushLessUptoRow.holds Try.pinned (OpenSpec.upto pushLessSpec)

/-- 'tollbarlaw12.PushAll', WHERE WHAT IT READS IS OF BULK AT MOST 1048576: true; the input reads as it did. -/
def pushAllUptoRow : OpenClaim := { program := "ytnbhfcanknhkhaa", sum := "9a2d49136e0e9bb64673459165890cb73310211f497aa94da14b1ef248d74e73", func := "tollbar/tollbarlaw12.PushAll", spec := "pushAll", apart := false, narrowed := true }
def PushAllUptoSaid : Prop := pushAllUptoRow.holds Try.pinned (OpenSpec.upto pushAllSpec)

end Rows
end Go.Proofs.Ytnbhfcanknhkhaa
