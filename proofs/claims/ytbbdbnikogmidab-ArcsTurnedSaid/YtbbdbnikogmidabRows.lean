/-
  No cell of these rows narrows 'for every input' (looked for: loops, veiled, ifaces, maps, wideKeys, modest, calm, conditions, laid).
  DERIVED. THE GIVEN ROWS OF THIS SEAT. 2 by the template 'for every input the law returns true; each argument reads behind the call as it read before'; 0 by the template 'total and deterministic' (their statements: YtbbdbnikogmidabTotals.lean).
  GIVEN WITH THE SEED: the statements are not yours to turn. If you find one false, say at which input.
  Laid BY PROGRAM, IN A SANDBOX (cutbox-rows.mjs): the forced cells as the released guide's own fill.sh prints them over the translation 2d02f547a9623bf0… (all of the seat's roots in one cut). By AI agents, Wed Nov 11 2026. No macro, syntax, notation, axiom, sorry.
-/
import Derived.Test.YtbbdbnikogmidabChecked
import GoSem.Claim
import GoSem.ClaimJoined
import GoSem.ClaimMapViews
import Derived.JoinedTies
import Derived.KernelRfl
namespace Go.Proofs.Ytbbdbnikogmidab
/- THE CELL 'sum', in the pinned program and in every row, IS THE sha256 OF THE DUMP (.gsa) THAT YtbbdbnikogmidabProg.lean LOADS. Nothing in Lean hashes anything: it is a label: what it is worth is what the hold of that sum in a sandbox is worth. -/
noncomputable def Try.pinned : Pinned := { name := "ytbbdbnikogmidab", sum := "2d02f547a9623bf0404efc85f80395a5231df13045235fe6abd6071830c5c859", checked := Try.checked }
namespace Rows
def none {H : Type} : Left H := { results := [], args := [] }

/-- 'tollbarlaw5.ArcsTurned': WHATEVER THE INPUT: true; the input reads as it did. -/
def arcsTurnedSpec : ChangeSpec := { name := "arcsTurned", fn := fun _ => fun
  | [d] => { results := [.lit (.bool true)], args := [d] }
  | _ => none }
def arcsTurnedRow : OpenClaim := { program := "ytbbdbnikogmidab", sum := "2d02f547a9623bf0404efc85f80395a5231df13045235fe6abd6071830c5c859", func := "tollbar/tollbarlaw5.ArcsTurned", spec := "arcsTurned", apart := false }
def ArcsTurnedSaid : Prop := arcsTurnedRow.holds Try.pinned (OpenSpec.ofChange arcsTurnedSpec)

/-- ITS FALSE NEIGHBOUR: 'it returns false'. Refute it at one input. -/
def arcsTurnedWrong : ChangeSpec := { name := "arcsTurned", fn := fun _ => fun
  | [d] => { results := [.lit (.bool false)], args := [d] }
  | _ => none }
def ArcsTurnedWrongFalsely : Prop := arcsTurnedRow.holds Try.pinned (OpenSpec.ofChange arcsTurnedWrong)

/-- 'tollbarlaw5.ArcsForms': WHATEVER THE INPUT: true; the input reads as it did. -/
def arcsFormsSpec : ChangeSpec := { name := "arcsForms", fn := fun _ => fun
  | [d1, d2] => { results := [.lit (.bool true)], args := [d1, d2] }
  | _ => none }
def arcsFormsRow : OpenClaim := { program := "ytbbdbnikogmidab", sum := "2d02f547a9623bf0404efc85f80395a5231df13045235fe6abd6071830c5c859", func := "tollbar/tollbarlaw5.ArcsForms", spec := "arcsForms", apart := false }
def ArcsFormsSaid : Prop := arcsFormsRow.holds Try.pinned (OpenSpec.ofChange arcsFormsSpec)

/-- ITS FALSE NEIGHBOUR: 'it returns false'. Refute it at one input. -/
def arcsFormsWrong : ChangeSpec := { name := "arcsForms", fn := fun _ => fun
  | [d1, d2] => { results := [.lit (.bool false)], args := [d1, d2] }
  | _ => none }
def ArcsFormsWrongFalsely : Prop := arcsFormsRow.holds Try.pinned (OpenSpec.ofChange arcsFormsWrong)

/- THE SECOND FORM. 'bulk': how many values and letters a reading holds, each counted each time it is reached (what is shared counts as often as it is met; a slice's spare places count too). A statement '..UptoSaid' is the law's where the arguments, and the package variables that the reading takes, are together of bulk at most 1048576: NARROWER than '..Said'. Prove '..Said' where nothing that the law and all that it calls make is longer than what came in: it says more and counts as full. Else prove '..UptoSaid'. A law counts once. -/
mutual
def uptoBulk {H : Type} : DataW H → Nat
  | .lit (.string bytes) => bytes.length + 1
  | .lit _ => 1
  | .nil => 1
  | .ptr d => uptoBulk d + 1
  | .slice elems spare => uptoBulkAll elems + uptoBulkAll spare + 1
  | .agg parts => uptoBulkAll parts + 1
  | .iface _ d => uptoBulk d + 1
  | .map entries => uptoBulkEntries entries + 1
  | .held _ => 1
def uptoBulkAll {H : Type} : List (DataW H) → Nat
  | [] => 0
  | d :: r => uptoBulk d + uptoBulkAll r
def uptoBulkEntries {H : Type} : List (Lit × DataW H) → Nat
  | [] => 0
  | x :: r => uptoBulkEntry x + uptoBulkEntries r
def uptoBulkEntry {H : Type} : Lit × DataW H → Nat
  | (.string bytes, d) => bytes.length + uptoBulk d + 1
  | (_, d) => uptoBulk d + 1
 end
def uptoSmall : (H : Type) → List (DataW H) → Bool := fun _ ds => decide (uptoBulkAll ds ≤ 1048576)
def OpenSpec.upto (s : _root_.Go.ChangeSpec) : _root_.Go.OpenSpec := { _root_.Go.OpenSpec.ofChange s with cond := some uptoSmall }

/-- 'tollbarlaw5.ArcsTurned', WHERE WHAT IT READS IS OF BULK AT MOST 1048576: true; the input reads as it did. -/
def arcsTurnedUptoRow : OpenClaim := { program := "ytbbdbnikogmidab", sum := "2d02f547a9623bf0404efc85f80395a5231df13045235fe6abd6071830c5c859", func := "tollbar/tollbarlaw5.ArcsTurned", spec := "arcsTurned", apart := false, narrowed := true }
def ArcsTurnedUptoSaid : Prop := arcsTurnedUptoRow.holds Try.pinned (OpenSpec.upto arcsTurnedSpec)

/-- 'tollbarlaw5.ArcsForms', WHERE WHAT IT READS IS OF BULK AT MOST 1048576: true; the input reads as it did. -/
def arcsFormsUptoRow : OpenClaim := { program := "ytbbdbnikogmidab", sum := "2d02f547a9623bf0404efc85f80395a5231df13045235fe6abd6071830c5c859", func := "tollbar/tollbarlaw5.ArcsForms", spec := "arcsForms", apart := false, narrowed := true }
def ArcsFormsUptoSaid : Prop := arcsFormsUptoRow.holds Try.pinned (OpenSpec.upto arcsFormsSpec)

end Rows
end Go.Proofs.Ytbbdbnikogmidab
