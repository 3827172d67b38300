/-
  No cell of these rows narrows 'for every input' (looked for: loops, veiled, ifaces, maps, wideKeys, modest, calm, conditions, laid).
  DERIVED. THE GIVEN ROWS OF THIS SEAT. 9 by the template 'for every input the law returns true; each argument reads behind the call as it read before'; 0 by the template 'total and deterministic' (their statements: YtcfbfghdkgakmaaTotals.lean).
  GIVEN WITH THE SEED: the statements are not yours to turn. If you find one false, say at which input.
  Laid BY PROGRAM, IN A SANDBOX (cutbox-rows.mjs): the forced cells as the released guide's own fill.sh prints them over the translation a8b17e3345087ec4… (all of the seat's roots in one cut). By AI agents, Wed Nov 11 2026. No macro, syntax, notation, axiom, sorry.
-/
import Derived.Test.YtcfbfghdkgakmaaChecked
import GoSem.Claim
import GoSem.ClaimJoined
import GoSem.ClaimMapViews
import Derived.JoinedTies
import Derived.KernelRfl
namespace Go.Proofs.Ytcfbfghdkgakmaa
/- THE CELL 'sum', in the pinned program and in every row, IS THE sha256 OF THE DUMP (.gsa) THAT YtcfbfghdkgakmaaProg.lean LOADS. Nothing in Lean hashes anything: it is a label: what it is worth is what the hold of that sum in a sandbox is worth. -/
noncomputable def Try.pinned : Pinned := { name := "ytcfbfghdkgakmaa", sum := "a8b17e3345087ec47f578202e1925b0d16d53e65ae4afd60ea9502027e1c2e29", checked := Try.checked }
namespace Rows
def none {H : Type} : Left H := { results := [], args := [] }

/-- 'tollbarlaw9.Flows': WHATEVER THE INPUT: true; the input reads as it did. -/
def flowsSpec : ChangeSpec := { name := "flows", fn := fun _ => fun
  | [d1, d2, d3, d4, d5, d6] => { results := [.lit (.bool true)], args := [d1, d2, d3, d4, d5, d6] }
  | _ => none }
def flowsRow : OpenClaim := { program := "ytcfbfghdkgakmaa", sum := "a8b17e3345087ec47f578202e1925b0d16d53e65ae4afd60ea9502027e1c2e29", func := "tollbar/tollbarlaw9.Flows", spec := "flows", apart := false }
def FlowsSaid : Prop := flowsRow.holds Try.pinned (OpenSpec.ofChange flowsSpec)

/-- ITS FALSE NEIGHBOUR: 'it returns false'. Refute it at one input. -/
def flowsWrong : ChangeSpec := { name := "flows", fn := fun _ => fun
  | [d1, d2, d3, d4, d5, d6] => { results := [.lit (.bool false)], args := [d1, d2, d3, d4, d5, d6] }
  | _ => none }
def FlowsWrongFalsely : Prop := flowsRow.holds Try.pinned (OpenSpec.ofChange flowsWrong)

/-- 'tollbarlaw9.StreamMoves': WHATEVER THE INPUT: true; the input reads as it did. -/
def streamMovesSpec : ChangeSpec := { name := "streamMoves", fn := fun _ => fun
  | [d1, d2, d3, d4, d5] => { results := [.lit (.bool true)], args := [d1, d2, d3, d4, d5] }
  | _ => none }
def streamMovesRow : OpenClaim := { program := "ytcfbfghdkgakmaa", sum := "a8b17e3345087ec47f578202e1925b0d16d53e65ae4afd60ea9502027e1c2e29", func := "tollbar/tollbarlaw9.StreamMoves", spec := "streamMoves", apart := false }
def StreamMovesSaid : Prop := streamMovesRow.holds Try.pinned (OpenSpec.ofChange streamMovesSpec)

/-- ITS FALSE NEIGHBOUR: 'it returns false'. Refute it at one input. -/
def streamMovesWrong : ChangeSpec := { name := "streamMoves", fn := fun _ => fun
  | [d1, d2, d3, d4, d5] => { results := [.lit (.bool false)], args := [d1, d2, d3, d4, d5] }
  | _ => none }
def StreamMovesWrongFalsely : Prop := streamMovesRow.holds Try.pinned (OpenSpec.ofChange streamMovesWrong)

/-- 'tollbarlaw9.StreamBack': WHATEVER THE INPUT: true; the input reads as it did. -/
def streamBackSpec : ChangeSpec := { name := "streamBack", fn := fun _ => fun
  | [d1, d2, d3, d4, d5] => { results := [.lit (.bool true)], args := [d1, d2, d3, d4, d5] }
  | _ => none }
def streamBackRow : OpenClaim := { program := "ytcfbfghdkgakmaa", sum := "a8b17e3345087ec47f578202e1925b0d16d53e65ae4afd60ea9502027e1c2e29", func := "tollbar/tollbarlaw9.StreamBack", spec := "streamBack", apart := false }
def StreamBackSaid : Prop := streamBackRow.holds Try.pinned (OpenSpec.ofChange streamBackSpec)

/-- ITS FALSE NEIGHBOUR: 'it returns false'. Refute it at one input. -/
def streamBackWrong : ChangeSpec := { name := "streamBack", fn := fun _ => fun
  | [d1, d2, d3, d4, d5] => { results := [.lit (.bool false)], args := [d1, d2, d3, d4, d5] }
  | _ => none }
def StreamBackWrongFalsely : Prop := streamBackRow.holds Try.pinned (OpenSpec.ofChange streamBackWrong)

/-- 'tollbarlaw9.StreamSums': WHATEVER THE INPUT: true; the input reads as it did. -/
def streamSumsSpec : ChangeSpec := { name := "streamSums", fn := fun _ => fun
  | [d1, d2] => { results := [.lit (.bool true)], args := [d1, d2] }
  | _ => none }
def streamSumsRow : OpenClaim := { program := "ytcfbfghdkgakmaa", sum := "a8b17e3345087ec47f578202e1925b0d16d53e65ae4afd60ea9502027e1c2e29", func := "tollbar/tollbarlaw9.StreamSums", spec := "streamSums", apart := false }
def StreamSumsSaid : Prop := streamSumsRow.holds Try.pinned (OpenSpec.ofChange streamSumsSpec)

/-- ITS FALSE NEIGHBOUR: 'it returns false'. Refute it at one input. -/
def streamSumsWrong : ChangeSpec := { name := "streamSums", fn := fun _ => fun
  | [d1, d2] => { results := [.lit (.bool false)], args := [d1, d2] }
  | _ => none }
def StreamSumsWrongFalsely : Prop := streamSumsRow.holds Try.pinned (OpenSpec.ofChange streamSumsWrong)

/-- 'tollbarlaw10.Levels': WHATEVER THE INPUT: true; the input reads as it did. -/
def levelsSpec : ChangeSpec := { name := "levels", fn := fun _ => fun
  | [d1, d2, d3, d4] => { results := [.lit (.bool true)], args := [d1, d2, d3, d4] }
  | _ => none }
def levelsRow : OpenClaim := { program := "ytcfbfghdkgakmaa", sum := "a8b17e3345087ec47f578202e1925b0d16d53e65ae4afd60ea9502027e1c2e29", func := "tollbar/tollbarlaw10.Levels", spec := "levels", apart := false }
def LevelsSaid : Prop := levelsRow.holds Try.pinned (OpenSpec.ofChange levelsSpec)

/-- ITS FALSE NEIGHBOUR: 'it returns false'. Refute it at one input. -/
def levelsWrong : ChangeSpec := { name := "levels", fn := fun _ => fun
  | [d1, d2, d3, d4] => { results := [.lit (.bool false)], args := [d1, d2, d3, d4] }
  | _ => none }
def LevelsWrongFalsely : Prop := levelsRow.holds Try.pinned (OpenSpec.ofChange levelsWrong)

/-- 'tollbarlaw10.LevelSteps': WHATEVER THE INPUT: true; the input reads as it did. -/
def levelStepsSpec : ChangeSpec := { name := "levelSteps", fn := fun _ => fun
  | [d1, d2, d3, d4] => { results := [.lit (.bool true)], args := [d1, d2, d3, d4] }
  | _ => none }
def levelStepsRow : OpenClaim := { program := "ytcfbfghdkgakmaa", sum := "a8b17e3345087ec47f578202e1925b0d16d53e65ae4afd60ea9502027e1c2e29", func := "tollbar/tollbarlaw10.LevelSteps", spec := "levelSteps", apart := false }
def LevelStepsSaid : Prop := levelStepsRow.holds Try.pinned (OpenSpec.ofChange levelStepsSpec)

/-- ITS FALSE NEIGHBOUR: 'it returns false'. Refute it at one input. -/
def levelStepsWrong : ChangeSpec := { name := "levelSteps", fn := fun _ => fun
  | [d1, d2, d3, d4] => { results := [.lit (.bool false)], args := [d1, d2, d3, d4] }
  | _ => none }
def LevelStepsWrongFalsely : Prop := levelStepsRow.holds Try.pinned (OpenSpec.ofChange levelStepsWrong)

/-- 'tollbarlaw10.LevelFilled': WHATEVER THE INPUT: true; the input reads as it did. -/
def levelFilledSpec : ChangeSpec := { name := "levelFilled", fn := fun _ => fun
  | [d1, d2, d3] => { results := [.lit (.bool true)], args := [d1, d2, d3] }
  | _ => none }
def levelFilledRow : OpenClaim := { program := "ytcfbfghdkgakmaa", sum := "a8b17e3345087ec47f578202e1925b0d16d53e65ae4afd60ea9502027e1c2e29", func := "tollbar/tollbarlaw10.LevelFilled", spec := "levelFilled", apart := false }
def LevelFilledSaid : Prop := levelFilledRow.holds Try.pinned (OpenSpec.ofChange levelFilledSpec)

/-- ITS FALSE NEIGHBOUR: 'it returns false'. Refute it at one input. -/
def levelFilledWrong : ChangeSpec := { name := "levelFilled", fn := fun _ => fun
  | [d1, d2, d3] => { results := [.lit (.bool false)], args := [d1, d2, d3] }
  | _ => none }
def LevelFilledWrongFalsely : Prop := levelFilledRow.holds Try.pinned (OpenSpec.ofChange levelFilledWrong)

/-- 'tollbarlaw10.LevelRooms': WHATEVER THE INPUT: true; the input reads as it did. -/
def levelRoomsSpec : ChangeSpec := { name := "levelRooms", fn := fun _ => fun
  | [d1, d2, d3, d4] => { results := [.lit (.bool true)], args := [d1, d2, d3, d4] }
  | _ => none }
def levelRoomsRow : OpenClaim := { program := "ytcfbfghdkgakmaa", sum := "a8b17e3345087ec47f578202e1925b0d16d53e65ae4afd60ea9502027e1c2e29", func := "tollbar/tollbarlaw10.LevelRooms", spec := "levelRooms", apart := false }
def LevelRoomsSaid : Prop := levelRoomsRow.holds Try.pinned (OpenSpec.ofChange levelRoomsSpec)

/-- ITS FALSE NEIGHBOUR: 'it returns false'. Refute it at one input. -/
def levelRoomsWrong : ChangeSpec := { name := "levelRooms", fn := fun _ => fun
  | [d1, d2, d3, d4] => { results := [.lit (.bool false)], args := [d1, d2, d3, d4] }
  | _ => none }
def LevelRoomsWrongFalsely : Prop := levelRoomsRow.holds Try.pinned (OpenSpec.ofChange levelRoomsWrong)

/-- 'tollbarlaw10.LevelForms': WHATEVER THE INPUT: true; the input reads as it did. -/
def levelFormsSpec : ChangeSpec := { name := "levelForms", fn := fun _ => fun
  | [d1, d2] => { results := [.lit (.bool true)], args := [d1, d2] }
  | _ => none }
def levelFormsRow : OpenClaim := { program := "ytcfbfghdkgakmaa", sum := "a8b17e3345087ec47f578202e1925b0d16d53e65ae4afd60ea9502027e1c2e29", func := "tollbar/tollbarlaw10.LevelForms", spec := "levelForms", apart := false }
def LevelFormsSaid : Prop := levelFormsRow.holds Try.pinned (OpenSpec.ofChange levelFormsSpec)

/-- ITS FALSE NEIGHBOUR: 'it returns false'. Refute it at one input. -/
def levelFormsWrong : ChangeSpec := { name := "levelForms", fn := fun _ => fun
  | [d1, d2] => { results := [.lit (.bool false)], args := [d1, d2] }
  | _ => none }
def LevelFormsWrongFalsely : Prop := levelFormsRow.holds Try.pinned (OpenSpec.ofChange levelFormsWrong)

/- THE SECOND FORM. 'bulk': how many values and letters a reading holds, each counted each time it is reached (what is shared counts as often as it is met; a slice's spare places count too). A statement '..UptoSaid' is the law's where the arguments, and the package variables that the reading takes, are together of bulk at most 1048576: NARROWER than '..Said'. Prove '..Said' where nothing that the law and all that it calls make is longer than what came in: it says more and counts as full. Else prove '..UptoSaid'. A law counts once. -/
mutual
def uptoBulk {H : Type} : DataW H → Nat
  | .lit (.string bytes) => bytes.length + 1
  | .lit _ => 1
  | .nil => 1
  | .ptr d => uptoBulk d + 1
  | .slice elems spare => uptoBulkAll elems + uptoBulkAll spare + 1
  | .agg parts => uptoBulkAll parts + 1
  | .iface _ d => uptoBulk d + 1
  | .map entries => uptoBulkEntries entries + 1
  | .held _ => 1
def uptoBulkAll {H : Type} : List (DataW H) → Nat
  | [] => 0
  | d :: r => uptoBulk d + uptoBulkAll r
def uptoBulkEntries {H : Type} : List (Lit × DataW H) → Nat
  | [] => 0
  | x :: r => uptoBulkEntry x + uptoBulkEntries r
def uptoBulkEntry {H : Type} : Lit × DataW H → Nat
  | (.string bytes, d) => bytes.length + uptoBulk d + 1
  | (_, d) => uptoBulk d + 1
 end
def uptoSmall : (H : Type) → List (DataW H) → Bool := fun _ ds => decide (uptoBulkAll ds ≤ 1048576)
def OpenSpec.upto (s : _root_.Go.ChangeSpec) : _root_.Go.OpenSpec := { _root_.Go.OpenSpec.ofChange s with cond := some uptoSmall }

/-- 'tollbarlaw9.Flows', WHERE WHAT IT READS IS OF BULK AT MOST 1048576: true; the input reads as it did. -/
def flowsUptoRow : OpenClaim := { program := "ytcfbfghdkgakmaa", sum := "a8b17e3345087ec47f578202e1925b0d16d53e65ae4afd60ea9502027e1c2e29", func := "tollbar/tollbarlaw9.Flows", spec := "flows", apart := false, narrowed := true }
def FlowsUptoSaid : Prop := flowsUptoRow.holds Try.pinned (OpenSpec.upto flowsSpec)

/-- 'tollbarlaw9.StreamMoves', WHERE WHAT IT READS IS OF BULK AT MOST 1048576: true; the input reads as it did. -/
def streamMovesUptoRow : OpenClaim := { program := "ytcfbfghdkgakmaa", sum := "a8b17e3345087ec47f578202e1925b0d16d53e65ae4afd60ea9502027e1c2e29", func := "tollbar/tollbarlaw9.StreamMoves", spec := "streamMoves", apart := false, narrowed := true }
def StreamMovesUptoSaid : Prop := streamMovesUptoRow.holds Try.pinned (OpenSpec.upto streamMovesSpec)

/-- 'tollbarlaw9.StreamBack', WHERE WHAT IT READS IS OF BULK AT MOST 1048576: true; the input reads as it did. -/
def streamBackUptoRow : OpenClaim := { program := "ytcfbfghdkgakmaa", sum := "a8b17e3345087ec47f578202e1925b0d16d53e65ae4afd60ea9502027e1c2e29", func := "tollbar/tollbarlaw9.StreamBack", spec := "streamBack", apart := false, narrowed := true }
def StreamBackUptoSaid : Prop := streamBackUptoRow.holds Try.pinned (OpenSpec.upto streamBackSpec)

/-- 'tollbarlaw9.StreamSums', WHERE WHAT IT READS IS OF BULK AT MOST 1048576: true; the input reads as it did. -/
def streamSumsUptoRow : OpenClaim := { program := "ytcfbfghdkgakmaa", sum := "a8b17e3345087ec47f578202e1925b0d16d53e65ae4afd60ea9502027e1c2e29", func := "tollbar/tollbarlaw9.StreamSums", spec := "streamSums", apart := false, narrowed := true }
def StreamSumsUptoSaid : Prop := streamSumsUptoRow.holds Try.pinned (OpenSpec.upto streamSumsSpec)

/-- 'tollbarlaw10.Levels', WHERE WHAT IT READS IS OF BULK AT MOST 1048576: true; the input reads as it did. -/
def levelsUptoRow : OpenClaim := { program := "ytcfbfghdkgakmaa", sum := "a8b17e3345087ec47f578202e1925b0d16d53e65ae4afd60ea9502027e1c2e29", func := "tollbar/tollbarlaw10.Levels", spec := "levels", apart := false, narrowed := true }
def LevelsUptoSaid : Prop := levelsUptoRow.holds Try.pinned (OpenSpec.upto levelsSpec)

/-- 'tollbarlaw10.LevelSteps', WHERE WHAT IT READS IS OF BULK AT MOST 1048576: true; the input reads as it did. -/
def levelStepsUptoRow : OpenClaim := { program := "ytcfbfghdkgakmaa", sum := "a8b17e3345087ec47f578202e1925b0d16d53e65ae4afd60ea9502027e1c2e29", func := "tollbar/tollbarlaw10.LevelSteps", spec := "levelSteps", apart := false, narrowed := true }
def LevelStepsUptoSaid : Prop := levelStepsUptoRow.holds Try.pinned (OpenSpec.upto levelStepsSpec)

/-- 'tollbarlaw10.LevelFilled', WHERE WHAT IT READS IS OF BULK AT MOST 1048576: true; the input reads as it did. -/
def levelFilledUptoRow : OpenClaim := { program := "ytcfbfghdkgakmaa", sum := "a8b17e3345087ec47f578202e1925b0d16d53e65ae4afd60ea9502027e1c2e29", func := "tollbar/tollbarlaw10.LevelFilled", spec := "levelFilled", apart := false, narrowed := true }
def LevelFilledUptoSaid : Prop := levelFilledUptoRow.holds Try.pinned (OpenSpec.upto levelFilledSpec)

/-- 'tollbarlaw10.LevelRooms', WHERE WHAT IT READS IS OF BULK AT MOST 1048576: true; the input reads as it did. -/
def levelRoomsUptoRow : OpenClaim := { program := "ytcfbfghdkgakmaa", sum := "a8b17e3345087ec47f578202e1925b0d16d53e65ae4afd60ea9502027e1c2e29", func := "tollbar/tollbarlaw10.LevelRooms", spec := "levelRooms", apart := false, narrowed := true }
def LevelRoomsUptoSaid : Prop := levelRoomsUptoRow.holds Try.pinned (OpenSpec.upto levelRoomsSpec)

/-- 'tollbarlaw10.LevelForms', WHERE WHAT IT READS IS OF BULK AT MOST 1048576: true; the input reads as it did. -/
def levelFormsUptoRow : OpenClaim := { program := "ytcfbfghdkgakmaa", sum := "a8b17e3345087ec47f578202e1925b0d16d53e65ae4afd60ea9502027e1c2e29", func := "tollbar/tollbarlaw10.LevelForms", spec := "levelForms", apart := false, narrowed := true }
def LevelFormsUptoSaid : Prop := levelFormsUptoRow.holds Try.pinned (OpenSpec.upto levelFormsSpec)

end Rows
end Go.Proofs.Ytcfbfghdkgakmaa
