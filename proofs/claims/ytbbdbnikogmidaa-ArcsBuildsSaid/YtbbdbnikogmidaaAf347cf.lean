/- Texts of this claim, one behind the other: QP5B. -/
import Derived.Test.YtbbdbnikogmidaaAfdd642
import Derived.Test.YtbbdbnikogmidaaA371814
import Derived.Test.YtbbdbnikogmidaaAe5bfdf
import Derived.Test.YtbbdbnikogmidaaAe47383
section
/- ArcsBuilds on what is printed: plain. -/
namespace Go.Proofs.Ytbbdbnikogmidaa.Q
open Go.RowKit Go.Proofs.YtbbdbnikogmidaaW.PrintWords Go.Proofs.YtbbdbnikogmidaaW.PrintMore Go.Proofs.Ytbbdbnikogmidaa.PAll Go.Proofs.Ytbbdbnikogmidaa.Plain
set_option linter.unusedVariables false
set_option linter.unusedSimpArgs false
attribute [local instance] Classical.propDecidable

theorem ArcsBuilds (V : Int) (ls : List S66) (v : Int) (hx : ls.length < 5864062014805) : Ev (fun k => tollbarlaw5_ArcsBuilds.f k V ls v) true := by
  unfold tollbarlaw5_ArcsBuilds.f
  refine Ev.call (CopyGraph_eq V ls hx) ?_
  have B1 := arcs_Build_ev V ls
  have B2 := ref_Build_ev V ls
  have R1 := arcs_Row_ev V ls v
  have R2 := ref_Row_ev V ls v
  refine Ev.bind B1 (Ev.bind B2 (Ev.bind R1 (Ev.bind R2 ?_)))
  generalize hb : (if GOk V ls then (starts (net V ls), order (net V ls), heads (net V ls), (0 : Int)) else ([], [], [], 500)) = b at *
  generalize hc : (if GOk V ls ∧ (0 ≤ v ∧ v < V) then (rowOf (net V ls) v, (0 : Int)) else ([], 500)) = c at *
  have hlen : b.1.length ≤ 256 ∧ b.2.1.length ≤ 256 ∧ b.2.2.1.length ≤ 256 ∧ c.1.length ≤ 256 := by
    by_cases h : GOk V ls
    · rw [if_pos h] at hb
      subst hb
      have h1 := h.v8
      have h2 := h.m16
      have hV := net_V (V := V) (ls := ls) (by have := h.v2; omega)
      have h3 := order_length h
      refine ⟨by show (starts _).length ≤ _; rw [starts_len]; omega, by show (order _).length ≤ _; omega, by show (heads _).length ≤ _; rw [heads_len, net_m]; omega, ?_⟩
      subst hc
      split
      · have := rowOf_small h v
        show (rowOf _ _).length ≤ _
        omega
      · simp
    · rw [if_neg h] at hb
      subst hb
      rw [if_neg (fun g => h g.1)] at hc
      subst hc
      simp
  obtain ⟨b1, b2, b3, b4⟩ := b
  obtain ⟨c1, c2⟩ := c
  simp only at hlen
  refine Ev.bind (SameArcs_self b1 b2 b3 (by omega) (by omega) (by omega)) (Ev.ite_pos rfl ?_)
  refine Ev.call (Num_eq _) (Ev.ite_pos rfl ?_)
  refine Ev.bind (SameInts_self c1 (by omega)) (Ev.ite_pos rfl ?_)
  refine Ev.call (Num_eq _) ?_
  have e : (c2 != c2) = false := by simp
  show Ev (fun k => tollbarlaw5_ArcsBuilds.j0 k c1 (c2 != c2) V ls V ls b1 b2 b3 b1 b2 b3) true
  rw [e]
  refine Ev.step (fun k => by rw [tollbarlaw5_ArcsBuilds.j0]) ?_
  refine Ev.ite_neg (by simp) ?_
  obtain ⟨s1, S1⟩ := SpoilInts_ev b1 (by omega)
  obtain ⟨s2, S2⟩ := SpoilInts_ev b2 (by omega)
  obtain ⟨s3, S3⟩ := SpoilInts_ev b3 (by omega)
  obtain ⟨s4, S4⟩ := SpoilInts_ev c1 (by omega)
  refine Ev.bind S1 (Ev.bind S2 (Ev.bind S3 (Ev.bind S4 (Ev.bind B1 (Ev.bind awake5 (Ev.ite_pos rfl ?_))))))
  refine Ev.bind (SameArcs_self b1 b2 b3 (by omega) (by omega) (by omega)) (Ev.ite_pos rfl ?_)
  exact Ev.bind (SameGraph_self V ls (by omega)) (Ev.now _)
end Go.Proofs.Ytbbdbnikogmidaa.Q
end
