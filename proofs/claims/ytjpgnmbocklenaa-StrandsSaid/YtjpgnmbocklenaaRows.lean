/-
  No cell of these rows narrows 'for every input' (looked for: loops, veiled, ifaces, maps, wideKeys, modest, calm, conditions, laid).
  DERIVED. THE GIVEN ROWS OF THIS SEAT. 5 by the template 'for every input the law returns true; each argument reads behind the call as it read before'; 0 by the template 'total and deterministic' (their statements: YtjpgnmbocklenaaTotals.lean).
  GIVEN WITH THE SEED: the statements are not yours to turn. If you find one false, say at which input.
  Laid BY PROGRAM, IN A SANDBOX (cutbox-rows.mjs): the forced cells as the released guide's own fill.sh prints them over the translation 0d82a2fce380ed85… (all of the seat's roots in one cut). By AI agents, Wed Nov 11 2026. No macro, syntax, notation, axiom, sorry.
-/
import Derived.Test.YtjpgnmbocklenaaChecked
import GoSem.Claim
import GoSem.ClaimJoined
import GoSem.ClaimMapViews
import Derived.JoinedTies
import Derived.KernelRfl
namespace Go.Proofs.Ytjpgnmbocklenaa
/- THE CELL 'sum', in the pinned program and in every row, IS THE sha256 OF THE DUMP (.gsa) THAT YtjpgnmbocklenaaProg.lean LOADS. Nothing in Lean hashes anything: it is a label: what it is worth is what the hold of that sum in a sandbox is worth. -/
noncomputable def Try.pinned : Pinned := { name := "ytjpgnmbocklenaa", sum := "0d82a2fce380ed8524a0d4daf3110f167a7d07027a1ccf944b6dd64c82683663", checked := Try.checked }
namespace Rows
def none {H : Type} : Left H := { results := [], args := [] }

/-- 'tollbarlaw15.Strands': WHATEVER THE INPUT: true; the input reads as it did. -/
def strandsSpec : ChangeSpec := { name := "strands", fn := fun _ => fun
  | [d1, d2, d3, d4] => { results := [.lit (.bool true)], args := [d1, d2, d3, d4] }
  | _ => none }
def strandsRow : OpenClaim := { program := "ytjpgnmbocklenaa", sum := "0d82a2fce380ed8524a0d4daf3110f167a7d07027a1ccf944b6dd64c82683663", func := "tollbar/tollbarlaw15.Strands", spec := "strands", apart := false }
def StrandsSaid : Prop := strandsRow.holds Try.pinned (OpenSpec.ofChange strandsSpec)

/-- ITS FALSE NEIGHBOUR: 'it returns false'. Refute it at one input. -/
def strandsWrong : ChangeSpec := { name := "strands", fn := fun _ => fun
  | [d1, d2, d3, d4] => { results := [.lit (.bool false)], args := [d1, d2, d3, d4] }
  | _ => none }
def StrandsWrongFalsely : Prop := strandsRow.holds Try.pinned (OpenSpec.ofChange strandsWrong)

/-- 'tollbarlaw15.StrandWhole': WHATEVER THE INPUT: true; the input reads as it did. -/
def strandWholeSpec : ChangeSpec := { name := "strandWhole", fn := fun _ => fun
  | [d1, d2, d3, d4] => { results := [.lit (.bool true)], args := [d1, d2, d3, d4] }
  | _ => none }
def strandWholeRow : OpenClaim := { program := "ytjpgnmbocklenaa", sum := "0d82a2fce380ed8524a0d4daf3110f167a7d07027a1ccf944b6dd64c82683663", func := "tollbar/tollbarlaw15.StrandWhole", spec := "strandWhole", apart := false }
def StrandWholeSaid : Prop := strandWholeRow.holds Try.pinned (OpenSpec.ofChange strandWholeSpec)

/-- ITS FALSE NEIGHBOUR: 'it returns false'. Refute it at one input. -/
def strandWholeWrong : ChangeSpec := { name := "strandWhole", fn := fun _ => fun
  | [d1, d2, d3, d4] => { results := [.lit (.bool false)], args := [d1, d2, d3, d4] }
  | _ => none }
def StrandWholeWrongFalsely : Prop := strandWholeRow.holds Try.pinned (OpenSpec.ofChange strandWholeWrong)

/-- 'tollbarlaw15.StrandBack': WHATEVER THE INPUT: true; the input reads as it did. -/
def strandBackSpec : ChangeSpec := { name := "strandBack", fn := fun _ => fun
  | [d1, d2, d3, d4, d5] => { results := [.lit (.bool true)], args := [d1, d2, d3, d4, d5] }
  | _ => none }
def strandBackRow : OpenClaim := { program := "ytjpgnmbocklenaa", sum := "0d82a2fce380ed8524a0d4daf3110f167a7d07027a1ccf944b6dd64c82683663", func := "tollbar/tollbarlaw15.StrandBack", spec := "strandBack", apart := false }
def StrandBackSaid : Prop := strandBackRow.holds Try.pinned (OpenSpec.ofChange strandBackSpec)

/-- ITS FALSE NEIGHBOUR: 'it returns false'. Refute it at one input. -/
def strandBackWrong : ChangeSpec := { name := "strandBack", fn := fun _ => fun
  | [d1, d2, d3, d4, d5] => { results := [.lit (.bool false)], args := [d1, d2, d3, d4, d5] }
  | _ => none }
def StrandBackWrongFalsely : Prop := strandBackRow.holds Try.pinned (OpenSpec.ofChange strandBackWrong)

/-- 'tollbarlaw15.StrandRest': WHATEVER THE INPUT: true; the input reads as it did. -/
def strandRestSpec : ChangeSpec := { name := "strandRest", fn := fun _ => fun
  | [d1, d2, d3, d4] => { results := [.lit (.bool true)], args := [d1, d2, d3, d4] }
  | _ => none }
def strandRestRow : OpenClaim := { program := "ytjpgnmbocklenaa", sum := "0d82a2fce380ed8524a0d4daf3110f167a7d07027a1ccf944b6dd64c82683663", func := "tollbar/tollbarlaw15.StrandRest", spec := "strandRest", apart := false }
def StrandRestSaid : Prop := strandRestRow.holds Try.pinned (OpenSpec.ofChange strandRestSpec)

/-- ITS FALSE NEIGHBOUR: 'it returns false'. Refute it at one input. -/
def strandRestWrong : ChangeSpec := { name := "strandRest", fn := fun _ => fun
  | [d1, d2, d3, d4] => { results := [.lit (.bool false)], args := [d1, d2, d3, d4] }
  | _ => none }
def StrandRestWrongFalsely : Prop := strandRestRow.holds Try.pinned (OpenSpec.ofChange strandRestWrong)

/-- 'tollbarlaw15.StrandForms': WHATEVER THE INPUT: true; the input reads as it did. -/
def strandFormsSpec : ChangeSpec := { name := "strandForms", fn := fun _ => fun
  | [d1, d2] => { results := [.lit (.bool true)], args := [d1, d2] }
  | _ => none }
def strandFormsRow : OpenClaim := { program := "ytjpgnmbocklenaa", sum := "0d82a2fce380ed8524a0d4daf3110f167a7d07027a1ccf944b6dd64c82683663", func := "tollbar/tollbarlaw15.StrandForms", spec := "strandForms", apart := false }
def StrandFormsSaid : Prop := strandFormsRow.holds Try.pinned (OpenSpec.ofChange strandFormsSpec)

/-- ITS FALSE NEIGHBOUR: 'it returns false'. Refute it at one input. -/
def strandFormsWrong : ChangeSpec := { name := "strandForms", fn := fun _ => fun
  | [d1, d2] => { results := [.lit (.bool false)], args := [d1, d2] }
  | _ => none }
def StrandFormsWrongFalsely : Prop := strandFormsRow.holds Try.pinned (OpenSpec.ofChange strandFormsWrong)

/- THE SECOND FORM. 'bulk': how many values and letters a reading holds, each counted each time it is reached (what is shared counts as often as it is met; a slice's spare places count too). A statement '..UptoSaid' is the law's where the arguments, and the package variables that the reading takes, are together of bulk at most 1048576: NARROWER than '..Said'. Prove '..Said' where nothing that the law and all that it calls make is longer than what came in: it says more and counts as full. Else prove '..UptoSaid'. A law counts once. -/
mutual
def uptoBulk {H : Type} : DataW H → Nat
  | .lit (.string bytes) => bytes.length + 1
  | .lit _ => 1
  | .nil => 1
  | .ptr d => uptoBulk d + 1
  | .slice elems spare => uptoBulkAll elems + uptoBulkAll spare + 1
  | .agg parts => uptoBulkAll parts + 1
  | .iface _ d => uptoBulk d + 1
  | .map entries => uptoBulkEntries entries + 1
  | .held _ => 1
def uptoBulkAll {H : Type} : List (DataW H) → Nat
  | [] => 0
  | d :: r => uptoBulk d + uptoBulkAll r
def uptoBulkEntries {H : Type} : List (Lit × DataW H) → Nat
  | [] => 0
  | x :: r => uptoBulkEntry x + uptoBulkEntries r
def uptoBulkEntry {H : Type} : Lit × DataW H → Nat
  | (.string bytes, d) => bytes.length + uptoBulk d + 1
  | (_, d) => uptoBulk d + 1
 end
def uptoSmall : (H : Type) → List (DataW H) → Bool := fun _ ds => decide (uptoBulkAll ds ≤ 1048576)
def OpenSpec.upto (s : _root_.Go.ChangeSpec) : _root_.Go.OpenSpec := { _root_.Go.OpenSpec.ofChange s with cond := some uptoSmall }

/-- 'tollbarlaw15.Strands', WHERE WHAT IT READS IS OF BULK AT MOST 1048576: true; the input reads as it did. -/
def strandsUptoRow : OpenClaim := { program := "ytjpgnmbocklenaa", sum := "0d82a2fce380ed8524a0d4daf3110f167a7d07027a1ccf944b6dd64c82683663", func := "tollbar/tollbarlaw15.Strands", spec := "strands", apart := false, narrowed := true }
def StrandsUptoSaid : Prop := strandsUptoRow.holds Try.pinned (OpenSpec.upto strandsSpec)

/-- 'tollbarlaw15.StrandWhole', WHERE WHAT IT READS IS OF BULK AT MOST 1048576: true; the input reads as it did. -/
def strandWholeUptoRow : OpenClaim := { program := "ytjpgnmbocklenaa", sum := "0d82a2fce380ed8524a0d4daf3110f167a7d07027a1ccf944b6dd64c82683663", func := "tollbar/tollbarlaw15.StrandWhole", spec := "strandWhole", apart := false, narrowed := true }
def StrandWholeUptoSaid : Prop := strandWholeUptoRow.holds Try.pinned (OpenSpec.upto strandWholeSpec)

/-- 'tollbarlaw15.StrandBack', WHERE WHAT IT READS IS OF BULK AT MOST 1048576: true; the input reads as it did. -/
def strandBackUptoRow : OpenClaim := { program := "ytjpgnmbocklenaa", sum := "0d82a2fce380ed8524a0d4daf3110f167a7d07027a1ccf944b6dd64c82683663", func := "tollbar/tollbarlaw15.StrandBack", spec := "strandBack", apart := false, narrowed := true }
def StrandBackUptoSaid : Prop := strandBackUptoRow.holds Try.pinned (OpenSpec.upto strandBackSpec)

/-- 'tollbarlaw15.StrandRest', WHERE WHAT IT READS IS OF BULK AT MOST 1048576: true; the input reads as it did. -/
def strandRestUptoRow : OpenClaim := { program := "ytjpgnmbocklenaa", sum := "0d82a2fce380ed8524a0d4daf3110f167a7d07027a1ccf944b6dd64c82683663", func := "tollbar/tollbarlaw15.StrandRest", spec := "strandRest", apart := false, narrowed := true }
def StrandRestUptoSaid : Prop := strandRestUptoRow.holds Try.pinned (OpenSpec.upto strandRestSpec)

/-- 'tollbarlaw15.StrandForms', WHERE WHAT IT READS IS OF BULK AT MOST 1048576: true; the input reads as it did. -/
def strandFormsUptoRow : OpenClaim := { program := "ytjpgnmbocklenaa", sum := "0d82a2fce380ed8524a0d4daf3110f167a7d07027a1ccf944b6dd64c82683663", func := "tollbar/tollbarlaw15.StrandForms", spec := "strandForms", apart := false, narrowed := true }
def StrandFormsUptoSaid : Prop := strandFormsUptoRow.holds Try.pinned (OpenSpec.upto strandFormsSpec)

end Rows
end Go.Proofs.Ytjpgnmbocklenaa
