/- Texts of this claim, one behind the other: F21. -/
import Derived.Test.YtcfbfghdkgakmaaA8397e0
section
/- tollbarlaw0_KeptInts: what it tells, and that its Go text comes to that. Written by a program for this claim. -/
namespace Go.Proofs.Ytcfbfghdkgakmaa.PAll
open Go.RowKit Go.Proofs.YtcfbfghdkgakmaaW.PrintWords Go.Proofs.YtcfbfghdkgakmaaW.PrintLast Go.Proofs.YtcfbfghdkgakmaaW.PrintMore
attribute [local go_sem] max2_int min2_int max_two min_two max_three min_three max_four min_four   -- for this text's walks alone
set_option linter.unusedVariables false
set_option linter.unusedSimpArgs false
/-! ### tollbarlaw0_KeptInts: function 21 -/
def tollbarlaw0_KeptInts.f (k : Nat) (l0 : List Int) (l1 : List Int) : Option (Bool) := if l0.length + 2 < 17592186044416 then (if l0.length = l1.length then ((tollbarlaw0_SameInts.f k l0 l1).bind fun t341 => (if t341 = true then some true else none)) else none) else none
set_option maxHeartbeats 8000000 in
set_option maxRecDepth 100000 in
theorem tollbarlaw0_KeptInts.calls (k : Nat) (A0 : Option Addr) (c0 : Nat) (l0 : List Int) (A1 : Option Addr) (c1 : Nat) (l1 : List Int) (r : Bool) (w : World) (hr0 : Kd.C (Kd.int .i64) w A0 (l0 ++ kz).length (l0 ++ kz)) (hc0 : (l0 ++ kz).length ≤ c0) (hr1 : Kd.C (Kd.int .i64) w A1 l1.length l1) (hc1 : l1.length ≤ c1) (h : tollbarlaw0_KeptInts.f k l0 l1 = some r) :
    Calls Try.prog 21 #[.slice A0 l0.length c0, .slice A1 l1.length c1] w fun e w' => e = .returned (.bool r) ∧ Drawn0 w w' := by
  have HR0 := Aside0.mk hr0
  have HC0 := Aside0.mk hc0
  clear hr0 hc0
  have HR1 := Aside0.mk hr1
  have HC1 := Aside0.mk hc1
  clear hr1 hc1
  have H : (if l0.length + 2 < 17592186044416 then (if l0.length = l1.length then ((tollbarlaw0_SameInts.f k l0 l1).bind fun t341 => (if t341 = true then some true else none)) else none) else none) = some r := h
  clear h
  by_cases c1 : l0.length + 2 < 17592186044416
  · rw [if_pos c1] at H
    by_cases c2 : l0.length = l1.length
    · rw [if_pos c2] at H
      replace H := Option.bind_eq_some_iff.mp H
      obtain ⟨t341, A60, H⟩ := H
      cases t341 with
      | false => exact absurd H (by simp)
      | true =>
        have H1 : some true = some r := H
        obtain rfl : true = r := Option.some.inj H1
        clear H H1
        have A6 := Aside0.mk A60
        clear A60
        obtain ⟨ji3, hji3⟩ : ∃ j_ : Int, (wrap64 ((l0.length : Int) + 2)) = j_ := ⟨_, rfl⟩
        have hji3w : (IntKind.i64.wrap ((l0.length : Int) + 2)) = ji3 := (i64_w _).trans hji3
        have vji3 : ji3 = (l0.length : Int) + 2 := by rw [← hji3]; exact kept_wrap _ 2 c1 (by omega) (by omega)
        obtain ⟨ji11, hji11⟩ : ∃ j_ : Int, (wrap64 ((l1.length : Int) + 1)) = j_ := ⟨_, rfl⟩
        have hji11w : (IntKind.i64.wrap ((l1.length : Int) + 1)) = ji11 := (i64_w _).trans hji11
        have vji11 : ji11 = (l0.length : Int) + 1 := by rw [← hji11, ← c2]; exact kept_wrap _ 1 c1 (by omega) (by omega)
        obtain ⟨i014, hi014, _, hsz14, _⟩ := info_parts info3
        have hcut14 := kept_cut (P := Try.prog) 25 3 Try.underlying25 hi014 A0 l0.length c0 ji3 (by omega) (by have := HC0.out; rw [kz_len] at this; omega)
        obtain ⟨fl, hfl⟩ : ∃ fl : List Int, fl = l0 ++ kz := ⟨_, rfl⟩
        have HR340 := Aside0.mk (show Kd.C (Kd.int .i64) w A0 fl.length fl by rw [hfl]; exact HR0.out)
        have e14 : ji3.toNat = fl.length := by rw [hfl, kz_len]; omega
        rw [e14] at hcut14
        have p342 : 0 ≤ (l1.length : Int) := by omega
        have q342 : (l1.length : Int) < (fl.length : Int) := by rw [hfl, kz_len]; omega
        have z342 : rd fl (l1.length : Int) = -7777 := by rw [← c2, hfl]; exact kept_0 l0
        have p343 : 0 ≤ ji11 := by omega
        have q343 : ji11 < (fl.length : Int) := by rw [hfl, kz_len]; omega
        have z343 : rd fl ji11 = -8888 := by rw [vji11, hfl]; exact kept_1 l0
        have p342d : decide (0 ≤ (l1.length : Int)) = true := decide_eq_true p342
        have q342d : decide ((l1.length : Int) < (fl.length : Int)) = true := decide_eq_true q342
        have q342e : decide (l1.length < fl.length) = true := decide_eq_true (by omega)
        have p343d : decide (0 ≤ ji11) = true := decide_eq_true p343
        have q343d : decide (ji11 < (fl.length : Int)) = true := decide_eq_true q343
        replace p342 := eq_true p342; replace q342 := eq_true q342; replace p343 := eq_true p343; replace q343 := eq_true q343
        replace hfl := Aside0.mk hfl
        clear c1 c2 vji3 vji11 e14
        go_enter Try.func21, Try.ntmps21
        go_wp2_with (first | ((with_reducible refine gate_callee (f := 24) rfl ?_); refine goesL_ (some 13) rfl rfl Try.func24 (by kernel_rfl) rfl #[.slice A0 l0.length c0, .slice A1 l1.length c1] rfl (by (try simp only [List.map_toArray, List.map_cons, List.map_nil]); first | done | rfl | (simp only [List.length_drop, List.length_take]; rfl)) ?_; (with_reducible refine (tollbarlaw0_SameInts.calls k _ _ l0 _ _ l1 true _ ?side1 ?side2 ?side3 ?side4 A6.out).mono ?_); (case side1 => repeat (first | exact (kept_c HR0.out) | (with_reducible refine Kd.C_alloc ?_ _) | (with_reducible refine Kd.C_drewN ?_ _) | (with_reducible refine Kd.C_drew ?_))); (case side2 => exact (kept_le HC0.out)); (case side3 => repeat (first | exact HR1.out | (with_reducible refine Kd.C_alloc ?_ _) | (with_reducible refine Kd.C_drewN ?_ _) | (with_reducible refine Kd.C_drew ?_))); (case side4 => exact HC1.out); rintro e w' ⟨rfl, ⟨nd, rfl⟩⟩; refine ⟨_, rfl, ?_⟩; obtain ⟨ad342, e342, hx342_0⟩ := Kd.at_int HR340.out (l1.length : Int) (of_eq_true p342) (of_eq_true q342); rw [z342] at hx342_0; cases e342; (try simp only [Go.IntWalk.toNatUp] at hx342_0); obtain ⟨ad343, e343, hx343_0⟩ := Kd.at_int HR340.out (ji11) (of_eq_true p343) (of_eq_true q343); rw [z343] at hx343_0; obtain rfl : ad342 = ad343 := (by injection e343)))
        go_ret
        exact ⟨by first | rfl | (simp; done) | (simp [*]; done), by repeat (first | exact Drawn0.refl _ | apply Drawn0.step)⟩
    · rw [if_neg c2] at H
      exact absurd H (by simp)
  · rw [if_neg c1] at H
    exact absurd H (by simp)
end Go.Proofs.Ytcfbfghdkgakmaa.PAll
end
