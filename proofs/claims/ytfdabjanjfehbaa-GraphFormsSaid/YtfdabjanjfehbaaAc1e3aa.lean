/- Texts of this claim, one behind the other: QGraphForms. -/
import Derived.Test.YtfdabjanjfehbaaA25dc8a
import Derived.Test.YtfdabjanjfehbaaA0b5cd3
import Derived.Test.YtfdabjanjfehbaaA4d30f6
section
/- The law GraphForms on what its walk tells: plain. -/
namespace Go.Proofs.Ytfdabjanjfehbaa.Q
open Go.RowKit Go.Proofs.YtfdabjanjfehbaaW.PrintWords Go.Proofs.YtfdabjanjfehbaaW.PrintMore Go.Proofs.Ytfdabjanjfehbaa.PAll Go.Proofs.Ytfdabjanjfehbaa.Plain
set_option linter.unusedVariables false
set_option maxRecDepth 100000 in
theorem GraphForms (a : Int) : Ev (fun k => tollbarlaw4_GraphForms.f k a) true := by
  unfold tollbarlaw4_GraphForms.f
  by_cases c0 : Go.bits .and .i64 a 7 = 0
  · exact Ev.ite_pos c0 (Ev.of (GF0.mono a) (k := 100) (by show GF0.f 100 0 = some true; decide +kernel))
  refine Ev.ite_neg c0 ?_
  by_cases c1 : Go.bits .and .i64 a 7 = 1
  · exact Ev.ite_pos c1 (Ev.of (GF1.mono a) (k := 100) (by show GF1.f 100 0 = some true; decide +kernel))
  refine Ev.ite_neg c1 ?_
  by_cases c2 : Go.bits .and .i64 a 7 = 2
  · exact Ev.ite_pos c2 (Ev.of (GF2.mono a) (k := 100) (by show GF2.f 100 0 = some true; decide +kernel))
  refine Ev.ite_neg c2 ?_
  by_cases c3 : Go.bits .and .i64 a 7 = 3
  · exact Ev.ite_pos c3 (Ev.of (GF3.mono a) (k := 100) (by show GF3.f 100 0 = some true; decide +kernel))
  refine Ev.ite_neg c3 ?_
  by_cases c4 : Go.bits .and .i64 a 7 = 4
  · exact Ev.ite_pos c4 (Ev.of (GF4.mono a) (k := 100) (by show GF4.f 100 0 = some true; decide +kernel))
  refine Ev.ite_neg c4 ?_
  by_cases c5 : Go.bits .and .i64 a 7 = 5
  · exact Ev.ite_pos c5 (Ev.of (GF5.mono a) (k := 100) (by show GF5.f 100 0 = some true; decide +kernel))
  refine Ev.ite_neg c5 ?_
  by_cases c6 : Go.bits .and .i64 a 7 = 6
  · exact Ev.ite_pos c6 (Ev.of (GF6.mono a) (k := 100) (by show GF6.f 100 0 = some true; decide +kernel))
  refine Ev.ite_neg c6 ?_
  exact Ev.of (GF7.mono a) (k := 100) (by show GF7.f 100 0 = some true; decide +kernel)
end Go.Proofs.Ytfdabjanjfehbaa.Q
end
