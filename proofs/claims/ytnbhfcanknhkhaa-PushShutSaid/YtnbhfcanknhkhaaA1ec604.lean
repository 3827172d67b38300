/- Texts of this claim, one behind the other: F9. -/
import Derived.Test.YtnbhfcanknhkhaaA46b253
import Derived.Test.YtnbhfcanknhkhaaAd76bb8
import Derived.Test.YtnbhfcanknhkhaaA529209
import Derived.Test.YtnbhfcanknhkhaaA99c4e6
section
namespace Go.Proofs.Ytnbhfcanknhkhaa.PAll
open Go.RowKit Go.Proofs.YtnbhfcanknhkhaaW.PrintWords Go.Proofs.YtnbhfcanknhkhaaW.PrintLast Go.Proofs.YtnbhfcanknhkhaaW.PrintMore
attribute [local go_sem] max2_int min2_int max_two min_two max_three min_three max_four min_four   -- for this text's walks alone
set_option linter.unusedVariables false
set_option linter.unusedSimpArgs false
/-! ### tollbarlaw12_PushShut: function 9 -/
def tollbarlaw12_PushShut.j0 : Nat → List Int → Int → Int → Int → List Int → Int → Bool → Int → List (S53) → Option (Bool)
 | 0, _, _, _, _, _, _, _, _, _ => none
 | k + 1, x1, x2, x3, x4, x11, x12, x33, xka, xkb => if x33 = true then (some true) else ((tollbarref4_Levels.f k xka xkb x1 x11 x2).bind fun bt756 => ((tollbarlaw12_awake.f k).bind fun t760 => (if t760 = true then (if bt756.2 = 0 then (if x12 < x4 then (if x3 ≥ 0 then (if x3 < (bt756.1.length : Int) then (if 0 ≤ x3 then (some (decide ((rd bt756.1 x3) < 0))) else (none)) else (none)) else (none)) else (none)) else (none)) else (none))))
def tollbarlaw12_PushShut.f (k : Nat) (a0_0 : Int) (l0_1 : List (S53)) (l1 : List Int) (a2 : Int) (a3 : Int) (a4 : Int) : Option (Bool) := (push_Push.f k a0_0 l0_1 l1 a2 a3 a4).bind fun bt750 => ((tollbarlaw0_Num.f bt750.2.2).bind fun t755 => (if t755 = 0 then (tollbarlaw12_PushShut.j0 k l1 a2 a3 a4 bt750.1 bt750.2.1 (bt750.2.1 == a4) a0_0 l0_1) else (tollbarlaw12_PushShut.j0 k l1 a2 a3 a4 bt750.1 bt750.2.1 true a0_0 l0_1)))
set_option maxHeartbeats 8000000 in
set_option maxRecDepth 100000 in
theorem tollbarlaw12_PushShut.calls (k : Nat) (a0_0 : Int) (A0_1 : Option Addr) (c0_1 : Nat) (l0_1 : List (S53)) (A1 : Option Addr) (c1 : Nat) (l1 : List Int) (a2 : Int) (a3 : Int) (a4 : Int) (r : Bool) (w : World) (hr0_1 : Kd.C k53 w A0_1 l0_1.length l0_1) (hc0_1 : l0_1.length ≤ c0_1) (hr1 : Kd.C (Kd.int .i64) w A1 l1.length l1) (hc1 : l1.length ≤ c1) (h : tollbarlaw12_PushShut.f k a0_0 l0_1 l1 a2 a3 a4 = some r) :
  Calls Try.prog 9 #[.agg #[.int .i64 a0_0, .slice A0_1 l0_1.length c0_1], .slice A1 l1.length c1, .int .i64 a2, .int .i64 a3, .int .i64 a4] w fun e w' => e = .returned (.bool r) ∧ Below w.heap.size w w' := by
 have hu24 := Try.underlying24; have HR0_1 := ak hr0_1; have HC0_1 := ak hc0_1; clear hr0_1 hc0_1; have HR1 := ak hr1; have HC1 := ak hc1; clear hr1 hc1; have HB := ak (Below.refl w.heap.size w); have H : ((push_Push.f k a0_0 l0_1 l1 a2 a3 a4).bind fun bt750 => ((tollbarlaw0_Num.f bt750.2.2).bind fun t755 => (if t755 = 0 then (tollbarlaw12_PushShut.j0 k l1 a2 a3 a4 bt750.1 bt750.2.1 (bt750.2.1 == a4) a0_0 l0_1) else (tollbarlaw12_PushShut.j0 k l1 a2 a3 a4 bt750.1 bt750.2.1 true a0_0 l0_1)))) = some r := h; clear h; replace H := Option.bind_eq_some_iff.mp H; obtain ⟨⟨t750, t753, t754⟩, A60, H⟩ := H; replace H : ((tollbarlaw0_Num.f t754).bind fun t755 => (if t755 = 0 then (tollbarlaw12_PushShut.j0 k l1 a2 a3 a4 t750 t753 (t753 == a4) a0_0 l0_1) else (tollbarlaw12_PushShut.j0 k l1 a2 a3 a4 t750 t753 true a0_0 l0_1))) = some r := H; have A6 := ak A60; clear A60; have HC7 := ak H; clear H
 go_enter Try.func9, Try.ntmps9
 go_upto_region 2 with (first | ((with_reducible refine gate_dst (N := 5) rfl ?_); (try (refine gate_guard (by rfl) ?_; dsimp only)); refine box_event ?hg (N := 5) ?hd (cs := #[.int .i64 a0_0, .slice A0_1 l0_1.length c0_1]) (t := 24) ?hr ?_; (case hd => rfl); (case hg => rfl); (case hr => first | (go_simp; done) | (go_simp; rfl)); intro gb749 hg w8 hbox hb; have BK749 := ak (hbox); have GW749 := ak ((by rw [hg]; exact (below_size HB.out) : w.heap.size ≤ gb749)); have GE749 := ak ((by rw [hg]; exact (below_size HB.out) : w.heap.size ≤ gb749)); replace HB := ak (below_step HB.out hb); clear hb hbox hg; have hcz9_0 : w8.cell? ⟨gb749, 0, none⟩ = some (.int .i64 a0_0) := (blk_cell BK749.out 0).trans rfl; have hcz9_1 : w8.cell? ⟨gb749, 1, none⟩ = some (.slice A0_1 l0_1.length c0_1) := (blk_cell BK749.out 1).trans rfl; have hfz9_0 := blk_frozen BK749.out 0; have hfz9_1 := blk_frozen BK749.out 1) | ((with_reducible refine gate_callee (f := 29) rfl ?_); refine gl 22 Try.func29 #[.agg #[.int .i64 a0_0, .slice A0_1 l0_1.length c0_1], .slice A1 l1.length c1, .int .i64 a2, .int .i64 a3, .int .i64 a4] ?_; (with_reducible refine (push_Push.calls k a0_0 _ _ l0_1 _ _ l1 a2 a3 a4 t750 t753 t754 _ ?side1 ?side2 ?side3 ?side4 A6.out).mono ?_); (case side1 => exact (Kd.C_below HR0_1.out HB.out)); (case side2 => exact HC0_1.out); (case side3 => exact (Kd.C_below HR1.out HB.out)); (case side4 => exact HC1.out); rintro e w10 ⟨v751, rfl, ho0, hb⟩; refine ⟨_, rfl, ?_⟩; have HO752 := ak (Kd.R_lower ho0 (below_size HB.out)); replace BK749 := ak (blk_below BK749.out hb); replace HB := ak (below_step HB.out hb); (try clear hb); (try clear hb2); (try clear hk); (try clear hi); (try clear ho0)))
 (try simp only [Act.put, List.setIfInBounds_toArray, List.set_cons_zero, List.set_cons_succ])
 go_cut [33] (fun v33 wc => ∃ (kq : Nat) (x33_6 : Bool), v33 = .bool x33_6 ∧ Aside0 (tollbarlaw12_PushShut.j0 kq l1 a2 a3 a4 t750 t753 x33_6 a0_0 l0_1 = some r) ∧ Aside0 (kq ≤ k) ∧ Aside0 (Kd.R (Kd.int .i64) 3 wc w.heap.size (fun _ => True) v751 t750) ∧ Aside0 (wc.heap[gb749]? = some (.cells #[.int .i64 a0_0, (.slice A0_1 l0_1.length c0_1)] 24 (0, 0))) ∧ Aside0 (Below w.heap.size w wc))
 case first =>
  have H := HC7.out; clear HC7; replace H := Option.bind_eq_some_iff.mp H; obtain ⟨t755, A110, H⟩ := H; replace H : (if t755 = 0 then (tollbarlaw12_PushShut.j0 k l1 a2 a3 a4 t750 t753 (t753 == a4) a0_0 l0_1) else (tollbarlaw12_PushShut.j0 k l1 a2 a3 a4 t750 t753 true a0_0 l0_1)) = some r := H; have A11 := ak A110; clear A110
  by_cases c12 : t755 = 0
  ·
   rw [if_pos c12] at H; have c12b0 : (t755 == 0) = true := beq_iff_eq.mpr c12; have c12b1 : (t755 != 0) = false := bne_eq_false_iff_eq.mpr c12; clear c12; (first | rw [c12b0] | (simp only [i64_w, i32_w]; rw [c12b0]) | skip); have H' := ak H; clear H
   go_wp2_with (first | ((with_reducible refine gate_callee (f := 18) rfl ?_); refine gl 27 Try.func18 #[.int .i64 t754] ?_; (with_reducible refine (tollbarlaw0_Num.calls t754 t755 _ A11.out).mono ?_); rintro e w' ⟨rfl, ⟨nd, rfl⟩⟩; refine ⟨_, rfl, ?_⟩))
   go_meet
   case rel => exact ⟨_, ((t753 == a4)), (by first | rfl | (simp; done) | (simp [*]; done)), H', ⟨by first | omega | exact Nat.le_refl _⟩, ⟨by (with_reducible repeat (first | apply Kd.R_alloc | apply Kd.R_drewN | apply Kd.R_drew)); exact HO752.out⟩, ⟨by (with_reducible repeat (first | refine blk_drewN ?_ _ | refine blk_drew ?_ | refine blk_alloc ?_ _)); exact BK749.out⟩, ⟨by repeat (first | (with_reducible first | exact HB.out | apply below_alloc | apply pw_below_drewN | apply below_drew1 | refine below_set ?_ GE749.out) | exact HB.out)⟩⟩
  ·
   rw [if_neg c12] at H; have c12b0 : (t755 == 0) = false := beq_eq_false_iff_ne.mpr c12; have c12b1 : (t755 != 0) = true := bne_iff_ne.mpr c12; (first | rw [c12b0] | (simp only [i64_w, i32_w]; rw [c12b0]) | skip); have H' := ak H; clear H
   go_wp2_with (first | ((with_reducible refine gate_callee (f := 18) rfl ?_); refine gl 27 Try.func18 #[.int .i64 t754] ?_; (with_reducible refine (tollbarlaw0_Num.calls t754 t755 _ A11.out).mono ?_); rintro e w' ⟨rfl, ⟨nd, rfl⟩⟩; refine ⟨_, rfl, ?_⟩))
   go_meet
   case rel => exact ⟨_, (true), (by first | rfl | (simp; done) | (simp [*]; done)), H', ⟨by first | omega | exact Nat.le_refl _⟩, ⟨by (with_reducible repeat (first | apply Kd.R_alloc | apply Kd.R_drewN | apply Kd.R_drew)); exact HO752.out⟩, ⟨by (with_reducible repeat (first | refine blk_drewN ?_ _ | refine blk_drew ?_ | refine blk_alloc ?_ _)); exact BK749.out⟩, ⟨by repeat (first | (with_reducible first | exact HB.out | apply below_alloc | apply pw_below_drewN | apply below_drew1 | refine below_set ?_ GE749.out) | exact HB.out)⟩⟩
 case rest =>
  clear HC7
  repeat (first | clear c1 | clear c2 | clear p2 | clear c9 | clear c12 | clear c12b0 | clear c12b1 | clear hcz9_0 | clear hcz9_1 | clear hfz9_0 | clear hfz9_1)
  obtain ⟨kq, x33_6, rfl, HA, HJ6, HO_11, BK749, HB⟩ := hcut; cases kq with
  | zero => exact absurd HA.out (by simp [tollbarlaw12_PushShut.j0])
  | succ kj6 =>
   have H := HA.out; clear HA; simp only [tollbarlaw12_PushShut.j0] at H
   by_cases c13 : x33_6 = true
   ·
    subst c13
    have H1 : (some true) = some r := by rw [if_pos rfl] at H; exact H
    clear H; have H := H1; clear H1; obtain rfl := Option.some.inj H
    go_wp2
    go_ret
    exact ⟨by first | rfl | (simp [errW_none, errW_some] <;> rfl) | (simp [*, errW_none, errW_some] <;> rfl), by repeat (first | (with_reducible first | exact HB.out | apply below_alloc | apply pw_below_drewN | apply below_drew1 | refine below_set ?_ GE749.out) | exact HB.out)⟩
   ·
    replace c13 := Bool.eq_false_iff.mpr c13; subst c13
    have H1 : ((tollbarref4_Levels.f kj6 a0_0 l0_1 l1 t750 a2).bind fun bt756 => ((tollbarlaw12_awake.f kj6).bind fun t760 => (if t760 = true then (if bt756.2 = 0 then (if t753 < a4 then (if a3 ≥ 0 then (if a3 < (bt756.1.length : Int) then (if 0 ≤ a3 then (some (decide ((rd bt756.1 a3) < 0))) else (none)) else (none)) else (none)) else (none)) else (none)) else (none)))) = some r := by rw [if_neg (show ¬ (false = true) by decide)] at H; exact H
    clear H; have H := H1; clear H1; replace H := Option.bind_eq_some_iff.mp H; obtain ⟨⟨t756, t759⟩, A140, H⟩ := H; replace H : ((tollbarlaw12_awake.f kj6).bind fun t760 => (if t760 = true then (if t759 = 0 then (if t753 < a4 then (if a3 ≥ 0 then (if a3 < (t756.length : Int) then (if 0 ≤ a3 then (some (decide ((rd t756 a3) < 0))) else (none)) else (none)) else (none)) else (none)) else (none)) else (none))) = some r := H; have A14 := ak A140; clear A140; replace H := Option.bind_eq_some_iff.mp H; obtain ⟨t760, A150, H⟩ := H; replace H : (if t760 = true then (if t759 = 0 then (if t753 < a4 then (if a3 ≥ 0 then (if a3 < (t756.length : Int) then (if 0 ≤ a3 then (some (decide ((rd t756 a3) < 0))) else (none)) else (none)) else (none)) else (none)) else (none)) else (none)) = some r := H; have A15 := ak A150; clear A150
    by_cases c16 : t760 = true
    ·
     subst c16
     have H1 : (if t759 = 0 then (if t753 < a4 then (if a3 ≥ 0 then (if a3 < (t756.length : Int) then (if 0 ≤ a3 then (some (decide ((rd t756 a3) < 0))) else (none)) else (none)) else (none)) else (none)) else (none)) = some r := by rw [if_pos rfl] at H; exact H
     clear H; have H := H1; clear H1
     by_cases c17 : t759 = 0
     ·
      rw [if_pos c17] at H; have c17b0 : (t759 == 0) = true := beq_iff_eq.mpr c17; have c17b1 : (t759 != 0) = false := bne_eq_false_iff_eq.mpr c17; clear c17
      by_cases c18 : t753 < a4
      ·
       rw [if_pos c18] at H; have c18b0 : decide (t753 < a4) = true := decide_eq_true c18; clear c18
       by_cases c19 : a3 ≥ 0
       ·
        rw [if_pos c19] at H; have c19b0 : decide (0 ≤ a3) = true := decide_eq_true c19; clear c19
        by_cases c20 : a3 < (t756.length : Int)
        ·
         rw [if_pos c20] at H; have c20b0 : decide (a3 < (t756.length : Int)) = true := decide_eq_true c20; clear c20
         by_cases c21 : 0 ≤ a3
         ·
          rw [if_pos c21] at H; have c21b0 : decide (0 ≤ a3) = true := decide_eq_true c21; clear c21; obtain rfl := Option.some.inj H; have hcz22_0 : wc.cell? ⟨gb749, 0, none⟩ = some (.int .i64 a0_0) := (blk_cell BK749.out 0).trans rfl; have hcz22_1 : wc.cell? ⟨gb749, 1, none⟩ = some (.slice A0_1 l0_1.length c0_1) := (blk_cell BK749.out 1).trans rfl; have hfz22_0 := blk_frozen BK749.out 0; have hfz22_1 := blk_frozen BK749.out 1; obtain ⟨Ao23, co23, eo23⟩ := Kd.R_slice HO_11.out; subst eo23
          go_wp2_with (first | ((with_reducible refine gate_callee (f := 24) rfl ?_); refine gl 39 Try.func24 #[.agg #[.int .i64 a0_0, .slice A0_1 l0_1.length c0_1], .slice A1 l1.length c1, .slice Ao23 t750.length co23, .int .i64 a2] ?_; (with_reducible refine (tollbarref4_Levels.calls kj6 a0_0 _ _ l0_1 _ _ l1 _ _ t750 a2 t756 t759 _ ?side1 ?side2 ?side3 ?side4 ?side5 ?side6 A14.out).mono ?_); (case side1 => exact (Kd.C_below HR0_1.out HB.out)); (case side2 => exact HC0_1.out); (case side3 => exact (Kd.C_below HR1.out HB.out)); (case side4 => exact HC1.out); (case side5 => exact (Kd.R_reads' HO_11.out).2.2); (case side6 => exact (Kd.R_reads' HO_11.out).2.1); rintro e w24 ⟨v757, rfl, ho0, hb⟩; refine ⟨_, rfl, ?_⟩; have HO758 := ak (Kd.R_lower (Kd.R_new' ho0 (Kd.R_lt HO_11.out)) (below_size HB.out)); replace HO_11 := ak (Kd.R_elder' HO_11.out (Kd.R_base ho0) hb); replace BK749 := ak (blk_below BK749.out hb); replace HB := ak (below_step HB.out hb); (try clear hb); (try clear hb2); (try clear hk); (try clear hi); (try clear ho0)) | ((with_reducible refine gate_callee (f := 31) rfl ?_); refine gl 42 Try.func31 #[] ?_; (with_reducible refine (tollbarlaw12_awake.calls kj6  true _ A15.out).mono ?_); rintro e w25 ⟨rfl, hb⟩; refine ⟨_, rfl, ?_⟩; replace HO_11 := ak (Kd.R_below HO_11.out hb); replace HO758 := ak (Kd.R_below HO758.out hb); replace BK749 := ak (blk_below BK749.out hb); replace HB := ak (below_step HB.out hb); (try clear hb); (try clear hb2); (try clear hk); (try clear hi); obtain ⟨Ao26, co26, eo26⟩ := Kd.R_slice HO758.out; subst eo26; have p761 : 0 ≤ (a3 : Int) := of_decide_eq_true (by first | (with_reducible assumption) | assumption); have q761 : a3 < (t756.length : Int) := of_decide_eq_true (by first | (with_reducible assumption) | assumption); obtain ⟨ad761, e761, hx761_0⟩ := Kd.at_int (Kd.R_reads' HO758.out).2.2 a3 p761 q761; cases e761; replace p761 := eq_true p761; replace q761 := eq_true q761))
          go_ret
          exact ⟨by first | rfl | (simp [errW_none, errW_some] <;> rfl) | (simp [*, errW_none, errW_some] <;> rfl), by repeat (first | (with_reducible first | exact HB.out | apply below_alloc | apply pw_below_drewN | apply below_drew1 | refine below_set ?_ GE749.out) | exact HB.out)⟩
         ·
          rw [if_neg c21] at H; exact absurd H (by simp)
        ·
         rw [if_neg c20] at H; exact absurd H (by simp)
       ·
        rw [if_neg c19] at H; exact absurd H (by simp)
      ·
       rw [if_neg c18] at H; exact absurd H (by simp)
     ·
      rw [if_neg c17] at H; exact absurd H (by simp)
    ·
     replace c16 := Bool.eq_false_iff.mpr c16; subst c16
     have H1 : (none) = some r := by rw [if_neg (show ¬ (false = true) by decide)] at H; exact H
     clear H; have H := H1; clear H1; exact absurd H (by simp)
end Go.Proofs.Ytnbhfcanknhkhaa.PAll
end
