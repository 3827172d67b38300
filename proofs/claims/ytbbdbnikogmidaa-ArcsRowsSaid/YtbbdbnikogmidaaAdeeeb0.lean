/- Texts of this claim, one behind the other: QP5R. -/
import Derived.Test.YtbbdbnikogmidaaAfdd642
import Derived.Test.YtbbdbnikogmidaaA371814
import Derived.Test.YtbbdbnikogmidaaAb818df
import Derived.Test.YtbbdbnikogmidaaAe47383
section
/- ArcsRows on what is printed: plain. -/
namespace Go.Proofs.Ytbbdbnikogmidaa.Q
open Go.RowKit Go.Proofs.YtbbdbnikogmidaaW.PrintWords Go.Proofs.YtbbdbnikogmidaaW.PrintMore Go.Proofs.Ytbbdbnikogmidaa.PAll Go.Proofs.Ytbbdbnikogmidaa.Plain
set_option linter.unusedVariables false
set_option linter.unusedSimpArgs false
attribute [local instance] Classical.propDecidable

theorem rows_loop (V : Int) (ls : List S66) (h : GOk V ls) (d : Nat) : ∀ (i : Nat), (i : Int) ≤ V → V.toNat - i = d →
    Ev (fun k => tollbarlaw5_ArcsRows.l0 k (rowsTo (net V ls) i) (i : Int) V ls (starts (net V ls)) (order (net V ls)) (heads (net V ls))) true := by
  have hv := h.v8
  have hv2 := h.v2
  have hV := net_V (V := V) (ls := ls) (by omega)
  have hsl := starts_len (net V ls)
  induction d with
  | zero =>
    intro i hi hd
    have hiV : (i : Int) = V := by omega
    refine Ev.step (fun k => by rw [tollbarlaw5_ArcsRows.l0]) ?_
    refine Ev.ite_neg (by omega) ?_
    refine Ev.bind awake5 (Ev.ite_pos rfl ?_)
    have e : rowsTo (net V ls) i = order (net V ls) := by unfold order; congr 1; omega
    have ho := order_small h (v := i) hi
    rw [e] at ho ⊢
    refine Ev.bind (SameInts_self _ (by omega)) (Ev.ite_pos rfl ?_)
    refine Ev.ite_pos (by omega) ?_
    refine Ev.ite_pos (by omega) ?_
    have e2 : rd (starts (net V ls)) V = ((order (net V ls)).length : Int) := by
      rw [rd_starts _ (by omega) (by omega)]
      unfold startAt order
      congr 3
    rw [e2]
    simpa using Ev.now true
  | succ d ih =>
    intro i hi hd
    have X := ih (i + 1) (by omega) (by omega)
    have R := arcs_Row_ev V ls (i : Int)
    rw [if_pos ⟨h, by omega, by omega⟩] at R
    have ho := order_small h (v := i) hi
    have hr := rowOf_small h (i : Int)
    refine Ev.step (fun k => by rw [tollbarlaw5_ArcsRows.l0]) ?_
    refine Ev.ite_pos (by omega) ?_
    refine Ev.bind R ?_
    refine Ev.call (Num_eq _) ?_
    refine Ev.ite_pos rfl ?_
    refine Ev.ite_pos (by omega) ?_
    refine Ev.ite_pos (by omega) ?_
    refine Ev.ite_pos (by rw [rd_starts _ (by omega) (by omega)]; simp [startAt]) ?_
    refine Ev.ite_pos (by show _ + (rowOf _ _).length < _; omega) ?_
    have e3 : wrap64 ((i : Int) + 1) = ((i + 1 : Nat) : Int) := wrap_succ (by omega)
    exact Ev.congr (fun k => by rw [e3]; rfl) X

theorem ArcsRows (V : Int) (ls : List S66) : Ev (fun k => tollbarlaw5_ArcsRows.f k V ls) true := by
  unfold tollbarlaw5_ArcsRows.f
  refine Ev.bind (arcs_Build_ev V ls) ?_
  by_cases h : GOk V ls
  · rw [if_pos h]
    have hv := h.v8
    have hv2 := h.v2
    have hV := net_V (V := V) (ls := ls) (by omega)
    refine Ev.call (Num_eq _) ?_
    refine Ev.ite_pos rfl ?_
    refine Ev.ite_pos (by rw [wrap_id (by omega) (by omega)]; show ((starts _).length : Int) = _; rw [starts_len]; omega) ?_
    exact rows_loop V ls h V.toNat 0 (by omega) (by omega)
  · rw [if_neg h]
    refine Ev.call (Num_eq _) ?_
    refine Ev.ite_neg (by decide) ?_
    exact Ev.now _
end Go.Proofs.Ytbbdbnikogmidaa.Q
end
