/- The row of the law RateMeters: for every input the law returns true and the input reads as it did: out of the walk of its Go text. Conditions: none. -/
import Derived.Test.YtfdabjanjfehbaaRows
import Derived.Deep.Strs
import Derived.WalkKit
import Derived.ProofKit
import Derived.OpenShut
import Derived.ShutString
import Derived.ChangeOld
import Derived.Below
import Derived.SizedLaws
import Derived.Test.YtfdabjanjfehbaaA673179
import Derived.Test.YtfdabjanjfehbaaAa8c733
import Derived.Test.YtfdabjanjfehbaaAef8d86
namespace Go.Proofs.Ytfdabjanjfehbaa.rateMeters
open Go.ChangeShapes Go.WideShapes Go.ChangeAt Go.RowKit Go.Joins Go.Proofs.YtfdabjanjfehbaaW.PrintWords Go.Proofs.Ytfdabjanjfehbaa.Open
set_option linter.unusedVariables false
set_option linter.unusedSimpArgs false
theorem own : ownKnob Try.prog.godebug = none := by kernel_rfl
theorem laidOut : laidOutB Try.prog = true := by kernel_rfl
theorem opens_ints : Opens Try.prog 28 (Kd.slice 3 (Kd.int .i64)) (fun xs => xs.length * 8 ≤ reachBytes ∧ xs.length ≤ maxLen ∧ ∀ x ∈ xs, (Lit.int .i64 x).wf = true) := opens_slice Try.underlying28 (by kernel_rfl) (B := 8) (by kernel_rfl) (opens_int Try.underlying3)
theorem opens_rows : Opens Try.prog 22 (Kd.slice 28 (Kd.slice 3 (Kd.int .i64))) (fun ys => ys.length * 24 ≤ reachBytes ∧ ys.length ≤ maxLen ∧ ∀ xs ∈ ys, xs.length * 8 ≤ reachBytes ∧ xs.length ≤ maxLen ∧ ∀ x ∈ xs, (Lit.int .i64 x).wf = true) := opens_slice Try.underlying22 (by kernel_rfl) (B := 24) (by kernel_rfl) opens_ints
set_option maxRecDepth 100000 in
theorem lifted (os : Os) (started : os.Started) (H : Type) (enc : TypeId × Value → H) :
    ReturnsInHanded {} Try.checked os 3 .any (Rows.rateMetersSpec.pre6 enc Try.prog Try.f3 Rows.rateMetersRow.domain false) (Rows.rateMetersSpec.post enc Try.prog Try.f3 false true false false) := by
  refine returnsInHanded_of_change_sized (C := Try.checked) own started (by kernel_rfl) Try.func3
    (ChangeSpec.witness6 (enc := enc) (C := Try.checked) false ⟨#[], #[.slice none 0 0], []⟩ 8 (by kernel_rfl) (by kernel_rfl) (by kernel_rfl) (by kernel_rfl)) ?_
  intro W base args ds gs before hval0 hW hcnd hsz0 _
  have hsz : (DataW.weightsEach Try.prog (Try.f3.params.toList ++ Rows.rateMetersSpec.plain.varTypes Try.prog) (ds ++ gs)).all (· ≤ reachBytes) = true := hsz0
  have hval : ∀ (j : Nat) t v, Try.f3.params[j]? = some t → args[j]? = some v → Value.okWide Try.prog W .any base t v := hval0
  have hW' := hW
  obtain ⟨p, q, hA0, hV, rfl, hfz, hnd⟩ := hW
  have hA : DataW.TrodAll enc Try.prog W 0 (fun _ => true) true Try.f3.params.toList args.toList ds p := hA0
  rw [Try.params3] at hA hval hsz
  obtain ⟨v0, vs0, d0, ds0, p0, q0, hargs, rfl, rfl, h0, r0⟩ := trodAll_cons hA
  obtain ⟨rfl, rfl, rfl⟩ := trodAll_nil r0
  obtain rfl : args = #[v0] := by cases args; simp_all
  obtain ⟨rfl, rfl⟩ := trodVars_none hV
  have k0 := h0
  have lt0 : ∀ x ∈ p0, x.block < W.heap.size := by obtain ⟨m, hm⟩ := k0; exact DataW.trod_lt m _ _ _ hm
  obtain ⟨A0, c0, l0, rfl, hc0, hC0, x0⟩ := arg_slice Try.underlying22 opens_rows (hval 0 22 v0 rfl rfl) h0 (weigh hsz (j := 0) rfl rfl)
  clear hA0 hval0 hsz0 hsz
  obtain ⟨k, hk⟩ := (show Ev (fun k => PAll.tollbarlaw1_RateMeters.f k l0) true from Q.RateMeters l0 (by have h := x0.1; rw [show reachBytes = 140737488351232 from rfl] at h; omega) (fun ys hy => by have h := (x0.2.2 ys hy).1; rw [show reachBytes = 140737488351232 from rfl] at h; omega)).rounds
  refine (PAll.tollbarlaw1_RateMeters.calls k A0 c0 l0 true W hC0 hc0 hk).mono fun e W' ⟨he, bel0⟩ => ?_
  have bel : Below W.heap.size W W' := bel0
  subst he
  exact ⟨_, rfl, _, _, _, [], _, [], hW', trodAll_mk1 (shut_bool Try.underlying4 _), (trodAll_cons_mk (Below.trod laidOut (by kernel_rfl) (of_decide_eq_true (by kernel_rfl)) k0 bel lt0) trodAll_mk0), rfl, bel.frame _, fun h => by cases h⟩
theorem over : Rows.rateMetersRow.holds Try.pinned (OpenSpec.ofChange Rows.rateMetersSpec) :=
  OpenClaim.holds_of_wide 3 Try.f3 rfl rfl rfl rfl rfl rfl rfl ⟨rfl, rfl, rfl, rfl, rfl⟩ rfl rfl rfl rfl rfl (by kernel_rfl) Try.func3 (by kernel_rfl)
    (of_decide_eq_true (by kernel_rfl)) (by unfold Func.isWrapper; first | (rw [if_pos (by decide +kernel)]; kernel_rfl) | (rw [if_neg (by decide +kernel)]; exact ⟨rfl, rfl⟩))
    (fun os started H enc _ => lifted os started H enc)
theorem proved : Rows.RateMetersSaid := over
#print axioms proved
end Go.Proofs.Ytfdabjanjfehbaa.rateMeters
namespace Go.Proofs.Ytfdabjanjfehbaa
/-- The row, under a short name, for the claim. -/
theorem rateMeters_holds : Rows.RateMetersSaid := rateMeters.proved
end Go.Proofs.Ytfdabjanjfehbaa
