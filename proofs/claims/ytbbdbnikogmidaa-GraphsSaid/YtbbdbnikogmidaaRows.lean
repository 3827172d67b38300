/-
  No cell of these rows narrows 'for every input' (looked for: loops, veiled, ifaces, maps, wideKeys, modest, calm, conditions, laid).
  DERIVED. THE GIVEN ROWS OF THIS SEAT. 12 by the template 'for every input the law returns true; each argument reads behind the call as it read before'; 0 by the template 'total and deterministic' (their statements: YtbbdbnikogmidaaTotals.lean).
  GIVEN WITH THE SEED: the statements are not yours to turn. If you find one false, say at which input.
  Laid BY PROGRAM, IN A SANDBOX (cutbox-rows.mjs): the forced cells as the released guide's own fill.sh prints them over the translation dd4cb3036b26aa21… (all of the seat's roots in one cut). By AI agents, Wed Nov 11 2026. No macro, syntax, notation, axiom, sorry.
-/
import Derived.Test.YtbbdbnikogmidaaChecked
import GoSem.Claim
import GoSem.ClaimJoined
import GoSem.ClaimMapViews
import Derived.JoinedTies
import Derived.KernelRfl
namespace Go.Proofs.Ytbbdbnikogmidaa
/- THE CELL 'sum', in the pinned program and in every row, IS THE sha256 OF THE DUMP (.gsa) THAT YtbbdbnikogmidaaProg.lean LOADS. Nothing in Lean hashes anything: it is a label: what it is worth is what the hold of that sum in a sandbox is worth. -/
noncomputable def Try.pinned : Pinned := { name := "ytbbdbnikogmidaa", sum := "dd4cb3036b26aa21b96bb958c567151eedce0da8deda3d6e17f5850d84a4e017", checked := Try.checked }
namespace Rows
def none {H : Type} : Left H := { results := [], args := [] }

/-- 'tollbarlaw1.RateSums': WHATEVER THE INPUT: true; the input reads as it did. -/
def rateSumsSpec : ChangeSpec := { name := "rateSums", fn := fun _ => fun
  | [d1, d2] => { results := [.lit (.bool true)], args := [d1, d2] }
  | _ => none }
def rateSumsRow : OpenClaim := { program := "ytbbdbnikogmidaa", sum := "dd4cb3036b26aa21b96bb958c567151eedce0da8deda3d6e17f5850d84a4e017", func := "tollbar/tollbarlaw1.RateSums", spec := "rateSums", apart := false }
def RateSumsSaid : Prop := rateSumsRow.holds Try.pinned (OpenSpec.ofChange rateSumsSpec)

/-- ITS FALSE NEIGHBOUR: 'it returns false'. Refute it at one input. -/
def rateSumsWrong : ChangeSpec := { name := "rateSums", fn := fun _ => fun
  | [d1, d2] => { results := [.lit (.bool false)], args := [d1, d2] }
  | _ => none }
def RateSumsWrongFalsely : Prop := rateSumsRow.holds Try.pinned (OpenSpec.ofChange rateSumsWrong)

/-- 'tollbarlaw1.RateSplits': WHATEVER THE INPUT: true; the input reads as it did. -/
def rateSplitsSpec : ChangeSpec := { name := "rateSplits", fn := fun _ => fun
  | [d1, d2] => { results := [.lit (.bool true)], args := [d1, d2] }
  | _ => none }
def rateSplitsRow : OpenClaim := { program := "ytbbdbnikogmidaa", sum := "dd4cb3036b26aa21b96bb958c567151eedce0da8deda3d6e17f5850d84a4e017", func := "tollbar/tollbarlaw1.RateSplits", spec := "rateSplits", apart := false }
def RateSplitsSaid : Prop := rateSplitsRow.holds Try.pinned (OpenSpec.ofChange rateSplitsSpec)

/-- ITS FALSE NEIGHBOUR: 'it returns false'. Refute it at one input. -/
def rateSplitsWrong : ChangeSpec := { name := "rateSplits", fn := fun _ => fun
  | [d1, d2] => { results := [.lit (.bool false)], args := [d1, d2] }
  | _ => none }
def RateSplitsWrongFalsely : Prop := rateSplitsRow.holds Try.pinned (OpenSpec.ofChange rateSplitsWrong)

/-- 'tollbarlaw1.RateLeasts': WHATEVER THE INPUT: true; the input reads as it did. -/
def rateLeastsSpec : ChangeSpec := { name := "rateLeasts", fn := fun _ => fun
  | [d1, d2] => { results := [.lit (.bool true)], args := [d1, d2] }
  | _ => none }
def rateLeastsRow : OpenClaim := { program := "ytbbdbnikogmidaa", sum := "dd4cb3036b26aa21b96bb958c567151eedce0da8deda3d6e17f5850d84a4e017", func := "tollbar/tollbarlaw1.RateLeasts", spec := "rateLeasts", apart := false }
def RateLeastsSaid : Prop := rateLeastsRow.holds Try.pinned (OpenSpec.ofChange rateLeastsSpec)

/-- ITS FALSE NEIGHBOUR: 'it returns false'. Refute it at one input. -/
def rateLeastsWrong : ChangeSpec := { name := "rateLeasts", fn := fun _ => fun
  | [d1, d2] => { results := [.lit (.bool false)], args := [d1, d2] }
  | _ => none }
def RateLeastsWrongFalsely : Prop := rateLeastsRow.holds Try.pinned (OpenSpec.ofChange rateLeastsWrong)

/-- 'tollbarlaw1.RateTurns': WHATEVER THE INPUT: true; the input reads as it did. -/
def rateTurnsSpec : ChangeSpec := { name := "rateTurns", fn := fun _ => fun
  | [d1, d2] => { results := [.lit (.bool true)], args := [d1, d2] }
  | _ => none }
def rateTurnsRow : OpenClaim := { program := "ytbbdbnikogmidaa", sum := "dd4cb3036b26aa21b96bb958c567151eedce0da8deda3d6e17f5850d84a4e017", func := "tollbar/tollbarlaw1.RateTurns", spec := "rateTurns", apart := false }
def RateTurnsSaid : Prop := rateTurnsRow.holds Try.pinned (OpenSpec.ofChange rateTurnsSpec)

/-- ITS FALSE NEIGHBOUR: 'it returns false'. Refute it at one input. -/
def rateTurnsWrong : ChangeSpec := { name := "rateTurns", fn := fun _ => fun
  | [d1, d2] => { results := [.lit (.bool false)], args := [d1, d2] }
  | _ => none }
def RateTurnsWrongFalsely : Prop := rateTurnsRow.holds Try.pinned (OpenSpec.ofChange rateTurnsWrong)

/-- 'tollbarlaw1.RateMeters': WHATEVER THE INPUT: true; the input reads as it did. -/
def rateMetersSpec : ChangeSpec := { name := "rateMeters", fn := fun _ => fun
  | [d] => { results := [.lit (.bool true)], args := [d] }
  | _ => none }
def rateMetersRow : OpenClaim := { program := "ytbbdbnikogmidaa", sum := "dd4cb3036b26aa21b96bb958c567151eedce0da8deda3d6e17f5850d84a4e017", func := "tollbar/tollbarlaw1.RateMeters", spec := "rateMeters", apart := false }
def RateMetersSaid : Prop := rateMetersRow.holds Try.pinned (OpenSpec.ofChange rateMetersSpec)

/-- ITS FALSE NEIGHBOUR: 'it returns false'. Refute it at one input. -/
def rateMetersWrong : ChangeSpec := { name := "rateMeters", fn := fun _ => fun
  | [d] => { results := [.lit (.bool false)], args := [d] }
  | _ => none }
def RateMetersWrongFalsely : Prop := rateMetersRow.holds Try.pinned (OpenSpec.ofChange rateMetersWrong)

/-- 'tollbarlaw1.RateGauges': WHATEVER THE INPUT: true; the input reads as it did. -/
def rateGaugesSpec : ChangeSpec := { name := "rateGauges", fn := fun _ => fun
  | [d1, d2, d3] => { results := [.lit (.bool true)], args := [d1, d2, d3] }
  | _ => none }
def rateGaugesRow : OpenClaim := { program := "ytbbdbnikogmidaa", sum := "dd4cb3036b26aa21b96bb958c567151eedce0da8deda3d6e17f5850d84a4e017", func := "tollbar/tollbarlaw1.RateGauges", spec := "rateGauges", apart := false }
def RateGaugesSaid : Prop := rateGaugesRow.holds Try.pinned (OpenSpec.ofChange rateGaugesSpec)

/-- ITS FALSE NEIGHBOUR: 'it returns false'. Refute it at one input. -/
def rateGaugesWrong : ChangeSpec := { name := "rateGauges", fn := fun _ => fun
  | [d1, d2, d3] => { results := [.lit (.bool false)], args := [d1, d2, d3] }
  | _ => none }
def RateGaugesWrongFalsely : Prop := rateGaugesRow.holds Try.pinned (OpenSpec.ofChange rateGaugesWrong)

/-- 'tollbarlaw1.RateSingles': WHATEVER THE INPUT: true; the input reads as it did. -/
def rateSinglesSpec : ChangeSpec := { name := "rateSingles", fn := fun _ => fun
  | [d] => { results := [.lit (.bool true)], args := [d] }
  | _ => none }
def rateSinglesRow : OpenClaim := { program := "ytbbdbnikogmidaa", sum := "dd4cb3036b26aa21b96bb958c567151eedce0da8deda3d6e17f5850d84a4e017", func := "tollbar/tollbarlaw1.RateSingles", spec := "rateSingles", apart := false }
def RateSinglesSaid : Prop := rateSinglesRow.holds Try.pinned (OpenSpec.ofChange rateSinglesSpec)

/-- ITS FALSE NEIGHBOUR: 'it returns false'. Refute it at one input. -/
def rateSinglesWrong : ChangeSpec := { name := "rateSingles", fn := fun _ => fun
  | [d] => { results := [.lit (.bool false)], args := [d] }
  | _ => none }
def RateSinglesWrongFalsely : Prop := rateSinglesRow.holds Try.pinned (OpenSpec.ofChange rateSinglesWrong)

/-- 'tollbarlaw4.Graphs': WHATEVER THE INPUT: true; the input reads as it did. -/
def graphsSpec : ChangeSpec := { name := "graphs", fn := fun _ => fun
  | [d1, d2] => { results := [.lit (.bool true)], args := [d1, d2] }
  | _ => none }
def graphsRow : OpenClaim := { program := "ytbbdbnikogmidaa", sum := "dd4cb3036b26aa21b96bb958c567151eedce0da8deda3d6e17f5850d84a4e017", func := "tollbar/tollbarlaw4.Graphs", spec := "graphs", unfollowed := true, recurses := true, apart := false }
def GraphsSaid : Prop := graphsRow.holds Try.pinned (OpenSpec.ofChange graphsSpec)

/-- ITS FALSE NEIGHBOUR: 'it returns false'. Refute it at one input. -/
def graphsWrong : ChangeSpec := { name := "graphs", fn := fun _ => fun
  | [d1, d2] => { results := [.lit (.bool false)], args := [d1, d2] }
  | _ => none }
def GraphsWrongFalsely : Prop := graphsRow.holds Try.pinned (OpenSpec.ofChange graphsWrong)

/-- 'tollbarlaw4.GraphForms': WHATEVER THE INPUT: true; the input reads as it did. -/
def graphFormsSpec : ChangeSpec := { name := "graphForms", fn := fun _ => fun
  | [d] => { results := [.lit (.bool true)], args := [d] }
  | _ => none }
def graphFormsRow : OpenClaim := { program := "ytbbdbnikogmidaa", sum := "dd4cb3036b26aa21b96bb958c567151eedce0da8deda3d6e17f5850d84a4e017", func := "tollbar/tollbarlaw4.GraphForms", spec := "graphForms", unfollowed := true, recurses := true, apart := false }
def GraphFormsSaid : Prop := graphFormsRow.holds Try.pinned (OpenSpec.ofChange graphFormsSpec)

/-- ITS FALSE NEIGHBOUR: 'it returns false'. Refute it at one input. -/
def graphFormsWrong : ChangeSpec := { name := "graphForms", fn := fun _ => fun
  | [d] => { results := [.lit (.bool false)], args := [d] }
  | _ => none }
def GraphFormsWrongFalsely : Prop := graphFormsRow.holds Try.pinned (OpenSpec.ofChange graphFormsWrong)

/-- 'tollbarlaw5.ArcsBuilds': WHATEVER THE INPUT: true; the input reads as it did. -/
def arcsBuildsSpec : ChangeSpec := { name := "arcsBuilds", fn := fun _ => fun
  | [d1, d2] => { results := [.lit (.bool true)], args := [d1, d2] }
  | _ => none }
def arcsBuildsRow : OpenClaim := { program := "ytbbdbnikogmidaa", sum := "dd4cb3036b26aa21b96bb958c567151eedce0da8deda3d6e17f5850d84a4e017", func := "tollbar/tollbarlaw5.ArcsBuilds", spec := "arcsBuilds", apart := false }
def ArcsBuildsSaid : Prop := arcsBuildsRow.holds Try.pinned (OpenSpec.ofChange arcsBuildsSpec)

/-- ITS FALSE NEIGHBOUR: 'it returns false'. Refute it at one input. -/
def arcsBuildsWrong : ChangeSpec := { name := "arcsBuilds", fn := fun _ => fun
  | [d1, d2] => { results := [.lit (.bool false)], args := [d1, d2] }
  | _ => none }
def ArcsBuildsWrongFalsely : Prop := arcsBuildsRow.holds Try.pinned (OpenSpec.ofChange arcsBuildsWrong)

/-- 'tollbarlaw5.ArcsRows': WHATEVER THE INPUT: true; the input reads as it did. -/
def arcsRowsSpec : ChangeSpec := { name := "arcsRows", fn := fun _ => fun
  | [d] => { results := [.lit (.bool true)], args := [d] }
  | _ => none }
def arcsRowsRow : OpenClaim := { program := "ytbbdbnikogmidaa", sum := "dd4cb3036b26aa21b96bb958c567151eedce0da8deda3d6e17f5850d84a4e017", func := "tollbar/tollbarlaw5.ArcsRows", spec := "arcsRows", apart := false }
def ArcsRowsSaid : Prop := arcsRowsRow.holds Try.pinned (OpenSpec.ofChange arcsRowsSpec)

/-- ITS FALSE NEIGHBOUR: 'it returns false'. Refute it at one input. -/
def arcsRowsWrong : ChangeSpec := { name := "arcsRows", fn := fun _ => fun
  | [d] => { results := [.lit (.bool false)], args := [d] }
  | _ => none }
def ArcsRowsWrongFalsely : Prop := arcsRowsRow.holds Try.pinned (OpenSpec.ofChange arcsRowsWrong)

/-- 'tollbarlaw5.ArcsPairs': WHATEVER THE INPUT: true; the input reads as it did. -/
def arcsPairsSpec : ChangeSpec := { name := "arcsPairs", fn := fun _ => fun
  | [d] => { results := [.lit (.bool true)], args := [d] }
  | _ => none }
def arcsPairsRow : OpenClaim := { program := "ytbbdbnikogmidaa", sum := "dd4cb3036b26aa21b96bb958c567151eedce0da8deda3d6e17f5850d84a4e017", func := "tollbar/tollbarlaw5.ArcsPairs", spec := "arcsPairs", apart := false }
def ArcsPairsSaid : Prop := arcsPairsRow.holds Try.pinned (OpenSpec.ofChange arcsPairsSpec)

/-- ITS FALSE NEIGHBOUR: 'it returns false'. Refute it at one input. -/
def arcsPairsWrong : ChangeSpec := { name := "arcsPairs", fn := fun _ => fun
  | [d] => { results := [.lit (.bool false)], args := [d] }
  | _ => none }
def ArcsPairsWrongFalsely : Prop := arcsPairsRow.holds Try.pinned (OpenSpec.ofChange arcsPairsWrong)

/- THE SECOND FORM. 'bulk': how many values and letters a reading holds, each counted each time it is reached (what is shared counts as often as it is met; a slice's spare places count too). A statement '..UptoSaid' is the law's where the arguments, and the package variables that the reading takes, are together of bulk at most 1048576: NARROWER than '..Said'. Prove '..Said' where nothing that the law and all that it calls make is longer than what came in: it says more and counts as full. Else prove '..UptoSaid'. A law counts once. -/
mutual
def uptoBulk {H : Type} : DataW H → Nat
  | .lit (.string bytes) => bytes.length + 1
  | .lit _ => 1
  | .nil => 1
  | .ptr d => uptoBulk d + 1
  | .slice elems spare => uptoBulkAll elems + uptoBulkAll spare + 1
  | .agg parts => uptoBulkAll parts + 1
  | .iface _ d => uptoBulk d + 1
  | .map entries => uptoBulkEntries entries + 1
  | .held _ => 1
def uptoBulkAll {H : Type} : List (DataW H) → Nat
  | [] => 0
  | d :: r => uptoBulk d + uptoBulkAll r
def uptoBulkEntries {H : Type} : List (Lit × DataW H) → Nat
  | [] => 0
  | x :: r => uptoBulkEntry x + uptoBulkEntries r
def uptoBulkEntry {H : Type} : Lit × DataW H → Nat
  | (.string bytes, d) => bytes.length + uptoBulk d + 1
  | (_, d) => uptoBulk d + 1
 end
def uptoSmall : (H : Type) → List (DataW H) → Bool := fun _ ds => decide (uptoBulkAll ds ≤ 1048576)
def OpenSpec.upto (s : _root_.Go.ChangeSpec) : _root_.Go.OpenSpec := { _root_.Go.OpenSpec.ofChange s with cond := some uptoSmall }

/-- 'tollbarlaw1.RateSums', WHERE WHAT IT READS IS OF BULK AT MOST 1048576: true; the input reads as it did. -/
def rateSumsUptoRow : OpenClaim := { program := "ytbbdbnikogmidaa", sum := "dd4cb3036b26aa21b96bb958c567151eedce0da8deda3d6e17f5850d84a4e017", func := "tollbar/tollbarlaw1.RateSums", spec := "rateSums", apart := false, narrowed := true }
def RateSumsUptoSaid : Prop := rateSumsUptoRow.holds Try.pinned (OpenSpec.upto rateSumsSpec)

/-- 'tollbarlaw1.RateSplits', WHERE WHAT IT READS IS OF BULK AT MOST 1048576: true; the input reads as it did. -/
def rateSplitsUptoRow : OpenClaim := { program := "ytbbdbnikogmidaa", sum := "dd4cb3036b26aa21b96bb958c567151eedce0da8deda3d6e17f5850d84a4e017", func := "tollbar/tollbarlaw1.RateSplits", spec := "rateSplits", apart := false, narrowed := true }
def RateSplitsUptoSaid : Prop := rateSplitsUptoRow.holds Try.pinned (OpenSpec.upto rateSplitsSpec)

/-- 'tollbarlaw1.RateLeasts', WHERE WHAT IT READS IS OF BULK AT MOST 1048576: true; the input reads as it did. -/
def rateLeastsUptoRow : OpenClaim := { program := "ytbbdbnikogmidaa", sum := "dd4cb3036b26aa21b96bb958c567151eedce0da8deda3d6e17f5850d84a4e017", func := "tollbar/tollbarlaw1.RateLeasts", spec := "rateLeasts", apart := false, narrowed := true }
def RateLeastsUptoSaid : Prop := rateLeastsUptoRow.holds Try.pinned (OpenSpec.upto rateLeastsSpec)

/-- 'tollbarlaw1.RateTurns', WHERE WHAT IT READS IS OF BULK AT MOST 1048576: true; the input reads as it did. -/
def rateTurnsUptoRow : OpenClaim := { program := "ytbbdbnikogmidaa", sum := "dd4cb3036b26aa21b96bb958c567151eedce0da8deda3d6e17f5850d84a4e017", func := "tollbar/tollbarlaw1.RateTurns", spec := "rateTurns", apart := false, narrowed := true }
def RateTurnsUptoSaid : Prop := rateTurnsUptoRow.holds Try.pinned (OpenSpec.upto rateTurnsSpec)

/-- 'tollbarlaw1.RateMeters', WHERE WHAT IT READS IS OF BULK AT MOST 1048576: true; the input reads as it did. -/
def rateMetersUptoRow : OpenClaim := { program := "ytbbdbnikogmidaa", sum := "dd4cb3036b26aa21b96bb958c567151eedce0da8deda3d6e17f5850d84a4e017", func := "tollbar/tollbarlaw1.RateMeters", spec := "rateMeters", apart := false, narrowed := true }
def RateMetersUptoSaid : Prop := rateMetersUptoRow.holds Try.pinned (OpenSpec.upto rateMetersSpec)

/-- 'tollbarlaw1.RateGauges', WHERE WHAT IT READS IS OF BULK AT MOST 1048576: true; the input reads as it did. -/
def rateGaugesUptoRow : OpenClaim := { program := "ytbbdbnikogmidaa", sum := "dd4cb3036b26aa21b96bb958c567151eedce0da8deda3d6e17f5850d84a4e017", func := "tollbar/tollbarlaw1.RateGauges", spec := "rateGauges", apart := false, narrowed := true }
def RateGaugesUptoSaid : Prop := rateGaugesUptoRow.holds Try.pinned (OpenSpec.upto rateGaugesSpec)

/-- 'tollbarlaw1.RateSingles', WHERE WHAT IT READS IS OF BULK AT MOST 1048576: true; the input reads as it did. -/
def rateSinglesUptoRow : OpenClaim := { program := "ytbbdbnikogmidaa", sum := "dd4cb3036b26aa21b96bb958c567151eedce0da8deda3d6e17f5850d84a4e017", func := "tollbar/tollbarlaw1.RateSingles", spec := "rateSingles", apart := false, narrowed := true }
def RateSinglesUptoSaid : Prop := rateSinglesUptoRow.holds Try.pinned (OpenSpec.upto rateSinglesSpec)

/-- 'tollbarlaw4.Graphs', WHERE WHAT IT READS IS OF BULK AT MOST 1048576: true; the input reads as it did. -/
def graphsUptoRow : OpenClaim := { program := "ytbbdbnikogmidaa", sum := "dd4cb3036b26aa21b96bb958c567151eedce0da8deda3d6e17f5850d84a4e017", func := "tollbar/tollbarlaw4.Graphs", spec := "graphs", unfollowed := true, recurses := true, apart := false, narrowed := true }
def GraphsUptoSaid : Prop := graphsUptoRow.holds Try.pinned (OpenSpec.upto graphsSpec)

/-- 'tollbarlaw4.GraphForms', WHERE WHAT IT READS IS OF BULK AT MOST 1048576: true; the input reads as it did. -/
def graphFormsUptoRow : OpenClaim := { program := "ytbbdbnikogmidaa", sum := "dd4cb3036b26aa21b96bb958c567151eedce0da8deda3d6e17f5850d84a4e017", func := "tollbar/tollbarlaw4.GraphForms", spec := "graphForms", unfollowed := true, recurses := true, apart := false, narrowed := true }
def GraphFormsUptoSaid : Prop := graphFormsUptoRow.holds Try.pinned (OpenSpec.upto graphFormsSpec)

/-- 'tollbarlaw5.ArcsBuilds', WHERE WHAT IT READS IS OF BULK AT MOST 1048576: true; the input reads as it did. -/
def arcsBuildsUptoRow : OpenClaim := { program := "ytbbdbnikogmidaa", sum := "dd4cb3036b26aa21b96bb958c567151eedce0da8deda3d6e17f5850d84a4e017", func := "tollbar/tollbarlaw5.ArcsBuilds", spec := "arcsBuilds", apart := false, narrowed := true }
def ArcsBuildsUptoSaid : Prop := arcsBuildsUptoRow.holds Try.pinned (OpenSpec.upto arcsBuildsSpec)

/-- 'tollbarlaw5.ArcsRows', WHERE WHAT IT READS IS OF BULK AT MOST 1048576: true; the input reads as it did. -/
def arcsRowsUptoRow : OpenClaim := { program := "ytbbdbnikogmidaa", sum := "dd4cb3036b26aa21b96bb958c567151eedce0da8deda3d6e17f5850d84a4e017", func := "tollbar/tollbarlaw5.ArcsRows", spec := "arcsRows", apart := false, narrowed := true }
def ArcsRowsUptoSaid : Prop := arcsRowsUptoRow.holds Try.pinned (OpenSpec.upto arcsRowsSpec)

/-- 'tollbarlaw5.ArcsPairs', WHERE WHAT IT READS IS OF BULK AT MOST 1048576: true; the input reads as it did. -/
def arcsPairsUptoRow : OpenClaim := { program := "ytbbdbnikogmidaa", sum := "dd4cb3036b26aa21b96bb958c567151eedce0da8deda3d6e17f5850d84a4e017", func := "tollbar/tollbarlaw5.ArcsPairs", spec := "arcsPairs", apart := false, narrowed := true }
def ArcsPairsUptoSaid : Prop := arcsPairsUptoRow.holds Try.pinned (OpenSpec.upto arcsPairsSpec)

end Rows
end Go.Proofs.Ytbbdbnikogmidaa
