/- The row of the law RateGauges: for every input the law returns true and the input reads as it did: out of the walk of its Go text. Conditions: none. -/
import Derived.Test.YtfdabjanjfehbaaRows
import Derived.Deep.Strs
import Derived.WalkKit
import Derived.ProofKit
import Derived.OpenShut
import Derived.ShutString
import Derived.ChangeOld
import Derived.Below
import Derived.SizedLaws
import Derived.Test.YtfdabjanjfehbaaA5eaab2
import Derived.Test.YtfdabjanjfehbaaAba0c4a
import Derived.Test.YtfdabjanjfehbaaAef8d86
namespace Go.Proofs.Ytfdabjanjfehbaa.rateGauges
open Go.ChangeShapes Go.WideShapes Go.ChangeAt Go.RowKit Go.Joins Go.Proofs.YtfdabjanjfehbaaW.PrintWords Go.Proofs.Ytfdabjanjfehbaa.Open
set_option linter.unusedVariables false
set_option linter.unusedSimpArgs false
theorem own : ownKnob Try.prog.godebug = none := by kernel_rfl
theorem laidOut : laidOutB Try.prog = true := by kernel_rfl
theorem opens_ints : Opens Try.prog 28 (Kd.slice 3 (Kd.int .i64)) (fun xs => xs.length * 8 ≤ reachBytes ∧ xs.length ≤ maxLen ∧ ∀ x ∈ xs, (Lit.int .i64 x).wf = true) := opens_slice Try.underlying28 (by kernel_rfl) (B := 8) (by kernel_rfl) (opens_int Try.underlying3)
theorem opens_rows : Opens Try.prog 22 (Kd.slice 28 (Kd.slice 3 (Kd.int .i64))) (fun ys => ys.length * 24 ≤ reachBytes ∧ ys.length ≤ maxLen ∧ ∀ xs ∈ ys, xs.length * 8 ≤ reachBytes ∧ xs.length ≤ maxLen ∧ ∀ x ∈ xs, (Lit.int .i64 x).wf = true) := opens_slice Try.underlying22 (by kernel_rfl) (B := 24) (by kernel_rfl) opens_ints
set_option maxRecDepth 100000 in
theorem lifted (os : Os) (started : os.Started) (H : Type) (enc : TypeId × Value → H) :
    ReturnsInHanded {} Try.checked os 4 .any (Rows.rateGaugesSpec.pre6 enc Try.prog Try.f4 Rows.rateGaugesRow.domain false) (Rows.rateGaugesSpec.post enc Try.prog Try.f4 false true false false) := by
  refine returnsInHanded_of_change_sized (C := Try.checked) own started (by kernel_rfl) Try.func4
    (ChangeSpec.witness6 (enc := enc) (C := Try.checked) false ⟨#[], #[.int .i64 0, .slice none 0 0, .slice none 0 0], []⟩ 8 (by kernel_rfl) (by kernel_rfl) (by kernel_rfl) (by kernel_rfl)) ?_
  intro W base args ds gs before hval0 hW hcnd hsz0 _
  have hsz : (DataW.weightsEach Try.prog (Try.f4.params.toList ++ Rows.rateGaugesSpec.plain.varTypes Try.prog) (ds ++ gs)).all (· ≤ reachBytes) = true := hsz0
  have hval : ∀ (j : Nat) t v, Try.f4.params[j]? = some t → args[j]? = some v → Value.okWide Try.prog W .any base t v := hval0
  have hW' := hW
  obtain ⟨p, q, hA0, hV, rfl, hfz, hnd⟩ := hW
  have hA : DataW.TrodAll enc Try.prog W 0 (fun _ => true) true Try.f4.params.toList args.toList ds p := hA0
  rw [Try.params4] at hA hval hsz
  obtain ⟨v0, vs0, d0, ds0, p0, q0, hargs, rfl, rfl, h0, r0⟩ := trodAll_cons hA
  obtain ⟨v1, vs1, d1, ds1, p1, q1, rfl, rfl, rfl, h1, r1⟩ := trodAll_cons r0
  obtain ⟨v2, vs2, d2, ds2, p2, q2, rfl, rfl, rfl, h2, r2⟩ := trodAll_cons r1
  obtain ⟨rfl, rfl, rfl⟩ := trodAll_nil r2
  obtain rfl : args = #[v0, v1, v2] := by cases args; simp_all
  obtain ⟨rfl, rfl⟩ := trodVars_none hV
  obtain ⟨a0, rfl, rfl, rfl, w0⟩ := open_int Try.underlying3 (hval 0 3 v0 rfl rfl) h0
  have k1 := h1
  have lt1 : ∀ x ∈ p1, x.block < W.heap.size := by obtain ⟨m, hm⟩ := k1; exact DataW.trod_lt m _ _ _ hm
  obtain ⟨A1, c1, l1, rfl, hc1, hC1, x1⟩ := arg_slice Try.underlying22 opens_rows (hval 1 22 v1 rfl rfl) h1 (weigh hsz (j := 1) rfl rfl)
  have k2 := h2
  have lt2 : ∀ x ∈ p2, x.block < W.heap.size := by obtain ⟨m, hm⟩ := k2; exact DataW.trod_lt m _ _ _ hm
  obtain ⟨A2, c2, l2, rfl, hc2, hC2, x2⟩ := arg_slice Try.underlying28 opens_ints (hval 2 28 v2 rfl rfl) h2 (weigh hsz (j := 2) rfl rfl)
  clear hA0 hval0 hsz0 hsz
  obtain ⟨k, hk⟩ := (show Ev (fun k => PAll.tollbarlaw1_RateGauges.f k a0 l1 l2) true from Q.RateGauges a0 l1 l2 (by have h := x1.1; rw [show reachBytes = 140737488351232 from rfl] at h; omega) (fun ys hy => by have h := (x1.2.2 ys hy).1; rw [show reachBytes = 140737488351232 from rfl] at h; omega)).rounds
  refine (PAll.tollbarlaw1_RateGauges.calls k a0 A1 c1 l1 A2 c2 l2 true W hC1 hc1 hC2 hc2 hk).mono fun e W' ⟨he, bel0⟩ => ?_
  have bel : Below W.heap.size W W' := bel0
  subst he
  exact ⟨_, rfl, _, _, _, [], _, [], hW', trodAll_mk1 (shut_bool Try.underlying4 _), (trodAll_cons_mk (shut_int Try.underlying3 w0) (trodAll_cons_mk (Below.trod laidOut (by kernel_rfl) (of_decide_eq_true (by kernel_rfl)) k1 bel lt1) (trodAll_cons_mk (Below.trod laidOut (by kernel_rfl) (of_decide_eq_true (by kernel_rfl)) k2 bel lt2) trodAll_mk0))), rfl, bel.frame _, fun h => by cases h⟩
theorem over : Rows.rateGaugesRow.holds Try.pinned (OpenSpec.ofChange Rows.rateGaugesSpec) :=
  OpenClaim.holds_of_wide 4 Try.f4 rfl rfl rfl rfl rfl rfl rfl ⟨rfl, rfl, rfl, rfl, rfl⟩ rfl rfl rfl rfl rfl (by kernel_rfl) Try.func4 (by kernel_rfl)
    (of_decide_eq_true (by kernel_rfl)) (by unfold Func.isWrapper; first | (rw [if_pos (by decide +kernel)]; kernel_rfl) | (rw [if_neg (by decide +kernel)]; exact ⟨rfl, rfl⟩))
    (fun os started H enc _ => lifted os started H enc)
theorem proved : Rows.RateGaugesSaid := over
#print axioms proved
end Go.Proofs.Ytfdabjanjfehbaa.rateGauges
namespace Go.Proofs.Ytfdabjanjfehbaa
/-- The row, under a short name, for the claim. -/
theorem rateGauges_holds : Rows.RateGaugesSaid := rateGauges.proved
end Go.Proofs.Ytfdabjanjfehbaa
