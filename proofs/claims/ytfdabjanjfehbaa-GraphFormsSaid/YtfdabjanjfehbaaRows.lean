/-
  No cell of these rows narrows 'for every input' (looked for: loops, veiled, ifaces, maps, wideKeys, modest, calm, conditions, laid).
  DERIVED. THE GIVEN ROWS OF THIS SEAT. 4 by the template 'for every input the law returns true; each argument reads behind the call as it read before'; 0 by the template 'total and deterministic' (their statements: YtfdabjanjfehbaaTotals.lean).
  GIVEN WITH THE SEED: the statements are not yours to turn. If you find one false, say at which input.
  Laid BY PROGRAM, IN A SANDBOX (cutbox-rows.mjs): the forced cells as the released guide's own fill.sh prints them over the translation c651cd310363759f… (all of the seat's roots in one cut). By AI agents, Wed Nov 11 2026. No macro, syntax, notation, axiom, sorry.
-/
import Derived.Test.YtfdabjanjfehbaaChecked
import GoSem.Claim
import GoSem.ClaimJoined
import GoSem.ClaimMapViews
import Derived.JoinedTies
import Derived.KernelRfl
namespace Go.Proofs.Ytfdabjanjfehbaa
/- THE CELL 'sum', in the pinned program and in every row, IS THE sha256 OF THE DUMP (.gsa) THAT YtfdabjanjfehbaaProg.lean LOADS. Nothing in Lean hashes anything: it is a label: what it is worth is what the hold of that sum in a sandbox is worth. -/
noncomputable def Try.pinned : Pinned := { name := "ytfdabjanjfehbaa", sum := "c651cd310363759f508971e7f5b7f6bb0ebdb2fd42e6373fcd005d83434174be", checked := Try.checked }
namespace Rows
def none {H : Type} : Left H := { results := [], args := [] }

/-- 'tollbarlaw1.RateMeters': WHATEVER THE INPUT: true; the input reads as it did. -/
def rateMetersSpec : ChangeSpec := { name := "rateMeters", fn := fun _ => fun
  | [d] => { results := [.lit (.bool true)], args := [d] }
  | _ => none }
def rateMetersRow : OpenClaim := { program := "ytfdabjanjfehbaa", sum := "c651cd310363759f508971e7f5b7f6bb0ebdb2fd42e6373fcd005d83434174be", func := "tollbar/tollbarlaw1.RateMeters", spec := "rateMeters", apart := false }
def RateMetersSaid : Prop := rateMetersRow.holds Try.pinned (OpenSpec.ofChange rateMetersSpec)

/-- ITS FALSE NEIGHBOUR: 'it returns false'. Refute it at one input. -/
def rateMetersWrong : ChangeSpec := { name := "rateMeters", fn := fun _ => fun
  | [d] => { results := [.lit (.bool false)], args := [d] }
  | _ => none }
def RateMetersWrongFalsely : Prop := rateMetersRow.holds Try.pinned (OpenSpec.ofChange rateMetersWrong)

/-- 'tollbarlaw1.RateGauges': WHATEVER THE INPUT: true; the input reads as it did. -/
def rateGaugesSpec : ChangeSpec := { name := "rateGauges", fn := fun _ => fun
  | [d1, d2, d3] => { results := [.lit (.bool true)], args := [d1, d2, d3] }
  | _ => none }
def rateGaugesRow : OpenClaim := { program := "ytfdabjanjfehbaa", sum := "c651cd310363759f508971e7f5b7f6bb0ebdb2fd42e6373fcd005d83434174be", func := "tollbar/tollbarlaw1.RateGauges", spec := "rateGauges", apart := false }
def RateGaugesSaid : Prop := rateGaugesRow.holds Try.pinned (OpenSpec.ofChange rateGaugesSpec)

/-- ITS FALSE NEIGHBOUR: 'it returns false'. Refute it at one input. -/
def rateGaugesWrong : ChangeSpec := { name := "rateGauges", fn := fun _ => fun
  | [d1, d2, d3] => { results := [.lit (.bool false)], args := [d1, d2, d3] }
  | _ => none }
def RateGaugesWrongFalsely : Prop := rateGaugesRow.holds Try.pinned (OpenSpec.ofChange rateGaugesWrong)

/-- 'tollbarlaw1.RateSingles': WHATEVER THE INPUT: true; the input reads as it did. -/
def rateSinglesSpec : ChangeSpec := { name := "rateSingles", fn := fun _ => fun
  | [d] => { results := [.lit (.bool true)], args := [d] }
  | _ => none }
def rateSinglesRow : OpenClaim := { program := "ytfdabjanjfehbaa", sum := "c651cd310363759f508971e7f5b7f6bb0ebdb2fd42e6373fcd005d83434174be", func := "tollbar/tollbarlaw1.RateSingles", spec := "rateSingles", apart := false }
def RateSinglesSaid : Prop := rateSinglesRow.holds Try.pinned (OpenSpec.ofChange rateSinglesSpec)

/-- ITS FALSE NEIGHBOUR: 'it returns false'. Refute it at one input. -/
def rateSinglesWrong : ChangeSpec := { name := "rateSingles", fn := fun _ => fun
  | [d] => { results := [.lit (.bool false)], args := [d] }
  | _ => none }
def RateSinglesWrongFalsely : Prop := rateSinglesRow.holds Try.pinned (OpenSpec.ofChange rateSinglesWrong)

/-- 'tollbarlaw4.GraphForms': WHATEVER THE INPUT: true; the input reads as it did. -/
def graphFormsSpec : ChangeSpec := { name := "graphForms", fn := fun _ => fun
  | [d] => { results := [.lit (.bool true)], args := [d] }
  | _ => none }
def graphFormsRow : OpenClaim := { program := "ytfdabjanjfehbaa", sum := "c651cd310363759f508971e7f5b7f6bb0ebdb2fd42e6373fcd005d83434174be", func := "tollbar/tollbarlaw4.GraphForms", spec := "graphForms", unfollowed := true, recurses := true, apart := false }
def GraphFormsSaid : Prop := graphFormsRow.holds Try.pinned (OpenSpec.ofChange graphFormsSpec)

/-- ITS FALSE NEIGHBOUR: 'it returns false'. Refute it at one input. -/
def graphFormsWrong : ChangeSpec := { name := "graphForms", fn := fun _ => fun
  | [d] => { results := [.lit (.bool false)], args := [d] }
  | _ => none }
def GraphFormsWrongFalsely : Prop := graphFormsRow.holds Try.pinned (OpenSpec.ofChange graphFormsWrong)

/- THE SECOND FORM. 'bulk': how many values and letters a reading holds, each counted each time it is reached (what is shared counts as often as it is met; a slice's spare places count too). A statement '..UptoSaid' is the law's where the arguments, and the package variables that the reading takes, are together of bulk at most 1048576: NARROWER than '..Said'. Prove '..Said' where nothing that the law and all that it calls make is longer than what came in: it says more and counts as full. Else prove '..UptoSaid'. A law counts once. -/
mutual
def uptoBulk {H : Type} : DataW H → Nat
  | .lit (.string bytes) => bytes.length + 1
  | .lit _ => 1
  | .nil => 1
  | .ptr d => uptoBulk d + 1
  | .slice elems spare => uptoBulkAll elems + uptoBulkAll spare + 1
  | .agg parts => uptoBulkAll parts + 1
  | .iface _ d => uptoBulk d + 1
  | .map entries => uptoBulkEntries entries + 1
  | .held _ => 1
def uptoBulkAll {H : Type} : List (DataW H) → Nat
  | [] => 0
  | d :: r => uptoBulk d + uptoBulkAll r
def uptoBulkEntries {H : Type} : List (Lit × DataW H) → Nat
  | [] => 0
  | x :: r => uptoBulkEntry x + uptoBulkEntries r
def uptoBulkEntry {H : Type} : Lit × DataW H → Nat
  | (.string bytes, d) => bytes.length + uptoBulk d + 1
  | (_, d) => uptoBulk d + 1
 end
def uptoSmall : (H : Type) → List (DataW H) → Bool := fun _ ds => decide (uptoBulkAll ds ≤ 1048576)
def OpenSpec.upto (s : _root_.Go.ChangeSpec) : _root_.Go.OpenSpec := { _root_.Go.OpenSpec.ofChange s with cond := some uptoSmall }

/-- 'tollbarlaw1.RateMeters', WHERE WHAT IT READS IS OF BULK AT MOST 1048576: true; the input reads as it did. -/
def rateMetersUptoRow : OpenClaim := { program := "ytfdabjanjfehbaa", sum := "c651cd310363759f508971e7f5b7f6bb0ebdb2fd42e6373fcd005d83434174be", func := "tollbar/tollbarlaw1.RateMeters", spec := "rateMeters", apart := false, narrowed := true }
def RateMetersUptoSaid : Prop := rateMetersUptoRow.holds Try.pinned (OpenSpec.upto rateMetersSpec)

/-- 'tollbarlaw1.RateGauges', WHERE WHAT IT READS IS OF BULK AT MOST 1048576: true; the input reads as it did. -/
def rateGaugesUptoRow : OpenClaim := { program := "ytfdabjanjfehbaa", sum := "c651cd310363759f508971e7f5b7f6bb0ebdb2fd42e6373fcd005d83434174be", func := "tollbar/tollbarlaw1.RateGauges", spec := "rateGauges", apart := false, narrowed := true }
def RateGaugesUptoSaid : Prop := rateGaugesUptoRow.holds Try.pinned (OpenSpec.upto rateGaugesSpec)

/-- 'tollbarlaw1.RateSingles', WHERE WHAT IT READS IS OF BULK AT MOST 1048576: true; the input reads as it did. -/
def rateSinglesUptoRow : OpenClaim := { program := "ytfdabjanjfehbaa", sum := "c651cd310363759f508971e7f5b7f6bb0ebdb2fd42e6373fcd005d83434174be", func := "tollbar/tollbarlaw1.RateSingles", spec := "rateSingles", apart := false, narrowed := true }
def RateSinglesUptoSaid : Prop := rateSinglesUptoRow.holds Try.pinned (OpenSpec.upto rateSinglesSpec)

/-- 'tollbarlaw4.GraphForms', WHERE WHAT IT READS IS OF BULK AT MOST 1048576: true; the input reads as it did. -/
def graphFormsUptoRow : OpenClaim := { program := "ytfdabjanjfehbaa", sum := "c651cd310363759f508971e7f5b7f6bb0ebdb2fd42e6373fcd005d83434174be", func := "tollbar/tollbarlaw4.GraphForms", spec := "graphForms", unfollowed := true, recurses := true, apart := false, narrowed := true }
def GraphFormsUptoSaid : Prop := graphFormsUptoRow.holds Try.pinned (OpenSpec.upto graphFormsSpec)

end Rows
end Go.Proofs.Ytfdabjanjfehbaa
