/- Texts of this claim, one behind the other: F11. -/
import Derived.Test.YtcfbfghdkgakmaaA84914a
import Derived.Test.YtcfbfghdkgakmaaA520490
import Derived.Test.YtcfbfghdkgakmaaA2b5fcd
section
/- tollbarlaw10_LevelForms: what it tells, and that its Go text comes to that. Written by a program for this claim. -/
namespace Go.Proofs.Ytcfbfghdkgakmaa.PAll
open Go.RowKit Go.Proofs.YtcfbfghdkgakmaaW.PrintWords Go.Proofs.YtcfbfghdkgakmaaW.PrintLast Go.Proofs.YtcfbfghdkgakmaaW.PrintMore
attribute [local go_sem] max2_int min2_int max_two min_two max_three min_three max_four min_four   -- for this text's walks alone
set_option linter.unusedVariables false
set_option linter.unusedSimpArgs false
/-! ### tollbarlaw10_LevelForms: function 11 -/
def tollbarlaw10_LevelForms.j0 : Nat → List Int → List Int → Int → Option (Bool)
  | 0, _, _, _ => none
  | k + 1, x5, x6, x7 => (tollbarlaw10_small.f).bind fun bt699 => ((level_Levels.f k bt699.1 bt699.2 x5 x6 x7).bind fun bt703 => ((tollbarlaw10_awake.f k).bind fun t707 => (if t707 = true then ((tollbarlaw0_Num.f bt703.2).bind fun t708 => (some (t708 == 1000))) else (none))))
def tollbarlaw10_LevelForms.f (k : Nat) (a0 : Int) (a1 : Int) : Option (Bool) := (some (([5, 4, 3] : List Int) : List Int)).bind fun y688 => ((some (([1, 1, 1] : List Int) : List Int)).bind fun y691 => (if (Go.bits .and .i64 a0 3) = 0 then (if 1 < (y688.length : Int) then (tollbarlaw10_LevelForms.j0 k (y688.set (1 : Int).toNat 5) y691 0) else (none)) else (if (Go.bits .and .i64 a0 3) = 1 then (if 2 ≤ (y691.length : Int) then (tollbarlaw10_LevelForms.j0 k y688 (y691.take (2 : Int).toNat) 0) else (none)) else (if (Go.bits .and .i64 a0 3) = 2 then (if 2 < (y691.length : Int) then (tollbarlaw10_LevelForms.j0 k y688 (y691.set (2 : Int).toNat (wrap64 (4 + (Go.bits .and .i64 a1 1023)))) 0) else (none)) else (tollbarlaw10_LevelForms.j0 k y688 y691 (wrap64 (3 + (Go.bits .and .i64 a1 1023))))))))
set_option maxHeartbeats 8000000 in
set_option maxRecDepth 100000 in
theorem tollbarlaw10_LevelForms.calls (k : Nat) (a0 : Int) (a1 : Int) (r : Bool) (w : World) (h : tollbarlaw10_LevelForms.f k a0 a1 = some r) :
    Calls Try.prog 11 #[.int .i64 a0, .int .i64 a1] w fun e w' => e = .returned (.bool r) ∧ Below w.heap.size w w' := by
  have HB := Aside0.mk (Below.refl w.heap.size w)
  have H : ((some (([5, 4, 3] : List Int) : List Int)).bind fun y688 => ((some (([1, 1, 1] : List Int) : List Int)).bind fun y691 => (if (Go.bits .and .i64 a0 3) = 0 then (if 1 < (y688.length : Int) then (tollbarlaw10_LevelForms.j0 k (y688.set (1 : Int).toNat 5) y691 0) else (none)) else (if (Go.bits .and .i64 a0 3) = 1 then (if 2 ≤ (y691.length : Int) then (tollbarlaw10_LevelForms.j0 k y688 (y691.take (2 : Int).toNat) 0) else (none)) else (if (Go.bits .and .i64 a0 3) = 2 then (if 2 < (y691.length : Int) then (tollbarlaw10_LevelForms.j0 k y688 (y691.set (2 : Int).toNat (wrap64 (4 + (Go.bits .and .i64 a1 1023)))) 0) else (none)) else (tollbarlaw10_LevelForms.j0 k y688 y691 (wrap64 (3 + (Go.bits .and .i64 a1 1023))))))))) = some r := h
  clear h
  obtain ⟨y688, hy688⟩ : ∃ y_ : List Int, y_ = (([5, 4, 3] : List Int)) := ⟨_, rfl⟩
  replace H : ((some (([1, 1, 1] : List Int) : List Int)).bind fun y691 => (if (Go.bits .and .i64 a0 3) = 0 then (if 1 < (y688.length : Int) then (tollbarlaw10_LevelForms.j0 k (y688.set (1 : Int).toNat 5) y691 0) else (none)) else (if (Go.bits .and .i64 a0 3) = 1 then (if 2 ≤ (y691.length : Int) then (tollbarlaw10_LevelForms.j0 k y688 (y691.take (2 : Int).toNat) 0) else (none)) else (if (Go.bits .and .i64 a0 3) = 2 then (if 2 < (y691.length : Int) then (tollbarlaw10_LevelForms.j0 k y688 (y691.set (2 : Int).toNat (wrap64 (4 + (Go.bits .and .i64 a1 1023)))) 0) else (none)) else (tollbarlaw10_LevelForms.j0 k y688 y691 (wrap64 (3 + (Go.bits .and .i64 a1 1023)))))))) = some r := by first | (rw [hy688]; with_reducible exact H) | (have H2_ := (Option.bind_some _ _).symm.trans H; rw [hy688]; with_reducible exact H2_) | (have H2_ := (Option.bind_some _ _).symm.trans H; with_reducible exact H2_) | with_reducible exact H | (rw [hy688]; exact H) | exact H
  have Ny688 := Aside0.mk hy688
  clear hy688
  obtain ⟨y691, hy691⟩ : ∃ y_ : List Int, y_ = (([1, 1, 1] : List Int)) := ⟨_, rfl⟩
  replace H : (if (Go.bits .and .i64 a0 3) = 0 then (if 1 < (y688.length : Int) then (tollbarlaw10_LevelForms.j0 k (y688.set (1 : Int).toNat 5) y691 0) else (none)) else (if (Go.bits .and .i64 a0 3) = 1 then (if 2 ≤ (y691.length : Int) then (tollbarlaw10_LevelForms.j0 k y688 (y691.take (2 : Int).toNat) 0) else (none)) else (if (Go.bits .and .i64 a0 3) = 2 then (if 2 < (y691.length : Int) then (tollbarlaw10_LevelForms.j0 k y688 (y691.set (2 : Int).toNat (wrap64 (4 + (Go.bits .and .i64 a1 1023)))) 0) else (none)) else (tollbarlaw10_LevelForms.j0 k y688 y691 (wrap64 (3 + (Go.bits .and .i64 a1 1023))))))) = some r := by first | (rw [hy691]; with_reducible exact H) | (have H2_ := (Option.bind_some _ _).symm.trans H; rw [hy691]; with_reducible exact H2_) | (have H2_ := (Option.bind_some _ _).symm.trans H; with_reducible exact H2_) | with_reducible exact H | (rw [hy691]; exact H) | exact H
  have Ny691 := Aside0.mk hy691
  clear hy691
  have HC3 := Aside0.mk H
  clear H
  go_enter Try.func11, Try.ntmps11
  go_upto_block 0 with (first | ((with_reducible refine gate_dst (N := 10) rfl ?_); refine Kd.R_lit (Kd.int .i64) _ 3 ?hg (N := 10) ?hd (xs := ([5, 4, 3] : List Int)) (inner := [.int .i64 5, .int .i64 4, .int .i64 3]) (ok := fun _ => True) (okp := fun _ => True) ?hr ?hp (fun _ hk => hk) trivial (Below.refl _ _) (Nat.le_refl _) (by simp) ?_; (case hd => rfl); (case hg => rfl); (case hr => first | (go_simp; done) | (go_simp; rfl)); (case hp => exact (Reps.one (show Kd.M (Kd.int .i64) _ _ _ 5 [.int .i64 5] from rfl) (Reps.one (show Kd.M (Kd.int .i64) _ _ _ 4 [.int .i64 4] from rfl) (Reps.one (show Kd.M (Kd.int .i64) _ _ _ 3 [.int .i64 3] from rfl) (Reps.none _ _))))); intro v689 w4 ho5 hb hg_ hnew_; clear hg_ hnew_; (first | rw [← Ny688.out] at ho5 | (simp only [Int.reduceToNat] at ho5; rw [← Ny688.out] at ho5)); have n0_ := Aside0.mk (Kd.R_lower ho5 (below_size (by repeat (first | (with_reducible first | exact HB.out | apply below_alloc | apply pw_below_drewN | apply below_drew1) | exact HB.out)))); have n1_ := Aside0.mk (below_step (by repeat (first | (with_reducible first | exact HB.out | apply below_alloc | apply pw_below_drewN | apply below_drew1) | exact HB.out)) hb); clear HB; have HO690 := n0_; have HB := n1_; clear n0_ n1_; clear hb ho5) | ((with_reducible refine gate_dst (N := 11) rfl ?_); refine Kd.R_lit (Kd.int .i64) _ 3 ?hg (N := 11) ?hd (xs := ([1, 1, 1] : List Int)) (inner := [.int .i64 1, .int .i64 1, .int .i64 1]) (ok := fun _ => True) (okp := fun _ => True) ?hr ?hp (fun _ hk => hk) trivial (Below.refl _ _) (Nat.le_refl _) (by simp) ?_; (case hd => rfl); (case hg => rfl); (case hr => first | (go_simp; done) | (go_simp; rfl)); (case hp => exact (Reps.one (show Kd.M (Kd.int .i64) _ _ _ 1 [.int .i64 1] from rfl) (Reps.one (show Kd.M (Kd.int .i64) _ _ _ 1 [.int .i64 1] from rfl) (Reps.one (show Kd.M (Kd.int .i64) _ _ _ 1 [.int .i64 1] from rfl) (Reps.none _ _))))); intro v692 w6 ho7 hb hg_ hnew_; clear hg_ hnew_; (first | rw [← Ny691.out] at ho7 | (simp only [Int.reduceToNat] at ho7; rw [← Ny691.out] at ho7)); have n0_ := Aside0.mk (Kd.R_elder' (by (with_reducible repeat (first | apply Kd.R_alloc | apply Kd.R_drewN | apply Kd.R_drew)); exact HO690.out) (Kd.R_base ho7) hb); have n1_ := Aside0.mk (Kd.R_lower (Kd.R_new' ho7 (Kd.R_lt (by (with_reducible repeat (first | apply Kd.R_alloc | apply Kd.R_drewN | apply Kd.R_drew)); exact HO690.out))) (below_size (by repeat (first | (with_reducible first | exact HB.out | apply below_alloc | apply pw_below_drewN | apply below_drew1) | exact HB.out)))); have n2_ := Aside0.mk (below_step (by repeat (first | (with_reducible first | exact HB.out | apply below_alloc | apply pw_below_drewN | apply below_drew1) | exact HB.out)) hb); clear HO690; clear HB; have HO690 := n0_; have HO693 := n1_; have HB := n2_; clear n0_ n1_ n2_; clear hb ho7))
  (try simp only [Act.put, List.setIfInBounds_toArray, List.set_cons_zero, List.set_cons_succ])
  go_cut [6, 7] (fun v6 v7 wc => ∃ (kq : Nat) (x5_2 : List Int) (x6_2 : List Int) (x7_2 : Int), v7 = .int .i64 x7_2 ∧ Aside0 (tollbarlaw10_LevelForms.j0 kq x5_2 x6_2 x7_2 = some r) ∧ Aside0 (kq ≤ k) ∧ Aside0 (Kd.R (Kd.int .i64) 3 wc w.heap.size (fun k_ => some k_ ≠ (v6 : Value).ownBlock) v689 x5_2) ∧ Aside0 (Kd.R (Kd.int .i64) 3 wc w.heap.size (fun k_ => some k_ ≠ (v689 : Value).ownBlock) v6 x6_2) ∧ Aside0 (Below w.heap.size w wc))
  case first =>
    have H := HC3.out
    clear HC3
    by_cases c8 : (Go.bits .and .i64 a0 3) = 0
    · rw [if_pos c8] at H
      have c8b0 : ((Go.bits .and .i64 a0 3) == 0) = true := beq_iff_eq.mpr c8
      have c8b1 : ((Go.bits .and .i64 a0 3) != 0) = false := bne_eq_false_iff_eq.mpr c8
      clear c8
      (first | rw [c8b0] | (simp only [i64_w, i32_w]; rw [c8b0]) | skip)
      by_cases c9 : 1 < (y688.length : Int)
      · rw [if_pos c9] at H
        have c9b0 : decide (1 < (y688.length : Int)) = true := decide_eq_true c9
        have c9b1 : decide (1 < y688.length) = true := decide_eq_true (by omega)
        clear c9
        obtain ⟨y694, hy694⟩ : ∃ y_ : List Int, y_ = (y688.set (1 : Int).toNat 5) := ⟨_, rfl⟩
        replace H : (tollbarlaw10_LevelForms.j0 k y694 y691 0) = some r := by first | (rw [hy694]; with_reducible exact H) | (have H2_ := (Option.bind_some _ _).symm.trans H; rw [hy694]; with_reducible exact H2_) | (have H2_ := (Option.bind_some _ _).symm.trans H; with_reducible exact H2_) | with_reducible exact H | (rw [hy694]; exact H) | exact H
        have Ny694 := Aside0.mk hy694
        clear hy694
        have H' := Aside0.mk H
        clear H
        have p10 : 0 ≤ (1 : Int) := (by omega)
        have q10 : (1 : Int) < ((y688.length : Int) : Int) := of_decide_eq_true (by first | (with_reducible assumption) | assumption)
        have qi10 : (1 < y688.length) = True := eq_true (by omega)
        obtain ⟨go10, co10, eo10, gb10, gl10, cl10, HG10⟩ := Kd.R_form HO690.out (by omega)
        (first | cases eo10 | (injection eo10 with ea_ en_ ec_; (first | subst ea_ | (injection ea_ with ea_; subst ea_)); subst ec_; clear en_))
        have GB10 := Aside0.mk gb10
        have GG10 := Aside0.mk HG10
        clear gb10 gl10 HG10
        obtain ⟨hx10_0, hf10_0⟩ := Kd.R_celln 0 HO690.out (1 : Int) p10 q10
        (try rw [show ((1 : Int)).toNat = 1 from rfl] at hx10_0)
        (try simp only [Nat.reduceMul, Nat.zero_mul, Nat.zero_add, Nat.reduceAdd] at hx10_0)
        (try rw [show ((1 : Int)).toNat = 1 from rfl] at hf10_0)
        (try simp only [Nat.reduceMul, Nat.zero_mul, Nat.zero_add, Nat.reduceAdd] at hf10_0)
        replace p10 := eq_true p10
        replace q10 := eq_true q10
        have n_ := Aside0.mk (Kd.R_mono (ok' := (fun k_ => some k_ ≠ (v692 : Value).ownBlock)) HO690.out (fun k_ hk => hk.2))
        clear HO690
        have HO690 := n_
        clear n_
        have HP11 := Kd.R_putg HO690.out (1 : Int) 5
        go_wp2_with (first | ((with_reducible refine gate_store (t := 3) (p := 20) rfl ?_); refine store_event (t := 3) (p := 20) (v := ?vo_w12) (w1 := (w6.setCell ⟨go10, (1 : Int).toNat, none⟩ (.int .i64 5))) ?hg ?ho ?hn ?hr ?_; (case ho => rfl); (case hg => rfl); (case hn => rfl); (case hr => first | (go_simp; done) | (go_simp; rfl)); intro w12 hw; have hg : w6.grownBy w12 (some go10) := (by rw [hw]; exact HP11.2); have hp_ : Kd.R (Kd.int .i64) 3 w12 w.heap.size (fun k_ => some k_ ≠ (v692 : Value).ownBlock) (.slice (some ⟨go10, 0, none⟩) y688.length co10) y694 := (by rw [hw, Ny694.out]; exact HP11.1); clear HP11; have n0_ := Aside0.mk (hp_); have n1_ := Aside0.mk (Kd.R_after (v := (.slice (some ⟨go10, 0, none⟩) y688.length co10)) (v1 := (.slice (some ⟨go10, 0, none⟩) y688.length co10)) (ok := (fun _ => True)) (by (with_reducible repeat (first | apply Kd.R_alloc | apply Kd.R_drewN | apply Kd.R_drew)); exact HO693.out) hg (.inl rfl)); have n2_ := Aside0.mk ((by rw [hw]; exact below_set (HB.out) GB10.out : Below w.heap.size w w12)); clear HO690; clear HO693; clear HB; have HO690 := n0_; have HO693 := n1_; have HB := n2_; clear n0_ n1_ n2_; clear hg hw hp_))
        go_meet
        case rel => exact ⟨_, (y694), (y691), (0), (by first | rfl | (simp; done) | (simp [*]; done)), H', ⟨by first | omega | exact Nat.le_refl _⟩, ⟨by (with_reducible repeat (first | apply Kd.R_alloc | apply Kd.R_drewN | apply Kd.R_drew)); exact HO690.out⟩, ⟨by (with_reducible repeat (first | apply Kd.R_alloc | apply Kd.R_drewN | apply Kd.R_drew)); exact Kd.R_mono HO693.out (fun _ hk => hk.2)⟩, ⟨by repeat (first | (with_reducible first | exact HB.out | apply below_alloc | apply pw_below_drewN | apply below_drew1) | exact HB.out)⟩⟩
      · rw [if_neg c9] at H
        exact absurd H (by simp)
    · rw [if_neg c8] at H
      have c8b0 : ((Go.bits .and .i64 a0 3) == 0) = false := beq_eq_false_iff_ne.mpr c8
      have c8b1 : ((Go.bits .and .i64 a0 3) != 0) = true := bne_iff_ne.mpr c8
      (first | rw [c8b0] | (simp only [i64_w, i32_w]; rw [c8b0]) | skip)
      by_cases c13 : (Go.bits .and .i64 a0 3) = 1
      · rw [if_pos c13] at H
        have c13b0 : ((Go.bits .and .i64 a0 3) == 1) = true := beq_iff_eq.mpr c13
        have c13b1 : ((Go.bits .and .i64 a0 3) != 1) = false := bne_eq_false_iff_eq.mpr c13
        clear c13
        by_cases c14 : 2 ≤ (y691.length : Int)
        · rw [if_pos c14] at H
          have c14b0 := eq_true c14
          have c14b1 : decide (2 ≤ (y691.length : Int)) = true := decide_eq_true c14
          clear c14
          obtain ⟨y695, hy695⟩ : ∃ y_ : List Int, y_ = (y691.take (2 : Int).toNat) := ⟨_, rfl⟩
          replace H : (tollbarlaw10_LevelForms.j0 k y688 y695 0) = some r := by first | (rw [hy695]; with_reducible exact H) | (have H2_ := (Option.bind_some _ _).symm.trans H; rw [hy695]; with_reducible exact H2_) | (have H2_ := (Option.bind_some _ _).symm.trans H; with_reducible exact H2_) | with_reducible exact H | (rw [hy695]; exact H) | exact H
          have Ny695 := Aside0.mk hy695
          clear hy695
          have H' := Aside0.mk H
          clear H
          obtain ⟨Ao15, co15, eo15⟩ := Kd.R_slice HO693.out
          subst eo15
          have q16 : (2 : Int) ≤ ((y691.length : Int) : Int) := of_decide_eq_true (by first | (with_reducible assumption) | assumption)
          obtain ⟨i016, hi016, _, hsz16, _⟩ := info_parts info3
          have hcut16 := cut_to (P := Try.prog) 25 3 .i64 Try.underlying25 hi016 Ao15 y691.length co15 2 (by omega) q16 (Kd.R_reads' HO693.out).2.1
          have hr16 := Kd.R_take (m := (2 : Int).toNat) HO693.out (by omega)
          have hy16 : y695.length = (2 : Int).toNat := (by rw [Ny695.out, List.length_take]; omega)
          rw [← Ny695.out] at hr16
          rw [← hy16] at hr16 hcut16
          clear hy16 hi016 hsz16 HO693
          have HO697 := Aside0.mk hr16
          clear hr16
          replace q16 := eq_true q16
          go_wp2
          go_meet
          case rel => exact ⟨_, (y688), (y695), (0), (by first | rfl | (simp; done) | (simp [*]; done)), H', ⟨by first | omega | exact Nat.le_refl _⟩, ⟨by (with_reducible repeat (first | apply Kd.R_alloc | apply Kd.R_drewN | apply Kd.R_drew)); exact Kd.R_mono HO690.out (fun _ hk => by cases Ao15 <;> exact hk.2)⟩, ⟨by (with_reducible repeat (first | apply Kd.R_alloc | apply Kd.R_drewN | apply Kd.R_drew)); exact Kd.R_mono HO697.out (fun _ hk => hk.2)⟩, ⟨by repeat (first | (with_reducible first | exact HB.out | apply below_alloc | apply pw_below_drewN | apply below_drew1) | exact HB.out)⟩⟩
        · rw [if_neg c14] at H
          exact absurd H (by simp)
      · rw [if_neg c13] at H
        have c13b0 : ((Go.bits .and .i64 a0 3) == 1) = false := beq_eq_false_iff_ne.mpr c13
        have c13b1 : ((Go.bits .and .i64 a0 3) != 1) = true := bne_iff_ne.mpr c13
        by_cases c17 : (Go.bits .and .i64 a0 3) = 2
        · rw [if_pos c17] at H
          have c17b0 : ((Go.bits .and .i64 a0 3) == 2) = true := beq_iff_eq.mpr c17
          have c17b1 : ((Go.bits .and .i64 a0 3) != 2) = false := bne_eq_false_iff_eq.mpr c17
          clear c17
          by_cases c18 : 2 < (y691.length : Int)
          · rw [if_pos c18] at H
            have c18b0 : decide (2 < (y691.length : Int)) = true := decide_eq_true c18
            have c18b1 : decide (2 < y691.length) = true := decide_eq_true (by omega)
            clear c18
            obtain ⟨y698, hy698⟩ : ∃ y_ : List Int, y_ = (y691.set (2 : Int).toNat (wrap64 (4 + (Go.bits .and .i64 a1 1023)))) := ⟨_, rfl⟩
            replace H : (tollbarlaw10_LevelForms.j0 k y688 y698 0) = some r := by first | (rw [hy698]; with_reducible exact H) | (have H2_ := (Option.bind_some _ _).symm.trans H; rw [hy698]; with_reducible exact H2_) | (have H2_ := (Option.bind_some _ _).symm.trans H; with_reducible exact H2_) | with_reducible exact H | (rw [hy698]; exact H) | exact H
            have Ny698 := Aside0.mk hy698
            clear hy698
            have H' := Aside0.mk H
            clear H
            have p19 : 0 ≤ (2 : Int) := (by omega)
            have q19 : (2 : Int) < ((y691.length : Int) : Int) := of_decide_eq_true (by first | (with_reducible assumption) | assumption)
            have qi19 : (2 < y691.length) = True := eq_true (by omega)
            obtain ⟨go19, co19, eo19, gb19, gl19, cl19, HG19⟩ := Kd.R_form HO693.out (by omega)
            (first | cases eo19 | (injection eo19 with ea_ en_ ec_; (first | subst ea_ | (injection ea_ with ea_; subst ea_)); subst ec_; clear en_))
            have GB19 := Aside0.mk gb19
            have GG19 := Aside0.mk HG19
            clear gb19 gl19 HG19
            obtain ⟨hx19_0, hf19_0⟩ := Kd.R_celln 0 HO693.out (2 : Int) p19 q19
            (try rw [show ((2 : Int)).toNat = 2 from rfl] at hx19_0)
            (try simp only [Nat.reduceMul, Nat.zero_mul, Nat.zero_add, Nat.reduceAdd] at hx19_0)
            (try rw [show ((2 : Int)).toNat = 2 from rfl] at hf19_0)
            (try simp only [Nat.reduceMul, Nat.zero_mul, Nat.zero_add, Nat.reduceAdd] at hf19_0)
            replace p19 := eq_true p19
            replace q19 := eq_true q19
            have n_ := Aside0.mk (Kd.R_mono (ok' := (fun k_ => some k_ ≠ (v689 : Value).ownBlock)) HO693.out (fun k_ hk => hk.2))
            clear HO693
            have HO693 := n_
            clear n_
            have HP20 := Kd.R_putg HO693.out (2 : Int) (wrap64 (4 + (Go.bits .and .i64 a1 1023)))
            go_wp2_with (first | ((with_reducible refine gate_store (t := 3) (p := 31) rfl ?_); refine store_event (t := 3) (p := 31) (v := ?vo_w21) (w1 := (w6.setCell ⟨go19, (2 : Int).toNat, none⟩ (.int .i64 (wrap64 (4 + (Go.bits .and .i64 a1 1023)))))) ?hg ?ho ?hn ?hr ?_; (case ho => rfl); (case hg => rfl); (case hn => rfl); (case hr => first | (go_simp; done) | (go_simp; rfl)); intro w21 hw; have hg : w6.grownBy w21 (some go19) := (by rw [hw]; exact HP20.2); have hp_ : Kd.R (Kd.int .i64) 3 w21 w.heap.size (fun k_ => some k_ ≠ (v689 : Value).ownBlock) (.slice (some ⟨go19, 0, none⟩) y691.length co19) y698 := (by rw [hw, Ny698.out]; exact HP20.1); clear HP20; have n0_ := Aside0.mk (Kd.R_after (v := (.slice (some ⟨go19, 0, none⟩) y691.length co19)) (v1 := (.slice (some ⟨go19, 0, none⟩) y691.length co19)) (ok := (fun _ => True)) (by (with_reducible repeat (first | apply Kd.R_alloc | apply Kd.R_drewN | apply Kd.R_drew)); exact HO690.out) hg (.inl rfl)); have n1_ := Aside0.mk (hp_); have n2_ := Aside0.mk ((by rw [hw]; exact below_set (HB.out) GB19.out : Below w.heap.size w w21)); clear HO690; clear HO693; clear HB; have HO690 := n0_; have HO693 := n1_; have HB := n2_; clear n0_ n1_ n2_; clear hg hw hp_))
            go_meet
            case rel => exact ⟨_, (y688), (y698), (0), (by first | rfl | (simp; done) | (simp [*]; done)), H', ⟨by first | omega | exact Nat.le_refl _⟩, ⟨by (with_reducible repeat (first | apply Kd.R_alloc | apply Kd.R_drewN | apply Kd.R_drew)); exact Kd.R_mono HO690.out (fun _ hk => hk.2)⟩, ⟨by (with_reducible repeat (first | apply Kd.R_alloc | apply Kd.R_drewN | apply Kd.R_drew)); exact HO693.out⟩, ⟨by repeat (first | (with_reducible first | exact HB.out | apply below_alloc | apply pw_below_drewN | apply below_drew1) | exact HB.out)⟩⟩
          · rw [if_neg c18] at H
            exact absurd H (by simp)
        · rw [if_neg c17] at H
          have c17b0 : ((Go.bits .and .i64 a0 3) == 2) = false := beq_eq_false_iff_ne.mpr c17
          have c17b1 : ((Go.bits .and .i64 a0 3) != 2) = true := bne_iff_ne.mpr c17
          have H' := Aside0.mk H
          clear H
          go_wp2
          go_meet
          case rel => exact ⟨_, (y688), (y691), (wrap64 (3 + (Go.bits .and .i64 a1 1023))), (by first | rfl | (simp; done) | (simp [*]; done)), H', ⟨by first | omega | exact Nat.le_refl _⟩, ⟨by (with_reducible repeat (first | apply Kd.R_alloc | apply Kd.R_drewN | apply Kd.R_drew)); exact Kd.R_mono HO690.out (fun _ hk => hk.2)⟩, ⟨by (with_reducible repeat (first | apply Kd.R_alloc | apply Kd.R_drewN | apply Kd.R_drew)); exact Kd.R_mono HO693.out (fun _ hk => hk.2)⟩, ⟨by repeat (first | (with_reducible first | exact HB.out | apply below_alloc | apply pw_below_drewN | apply below_drew1) | exact HB.out)⟩⟩
  case rest =>
    clear HC3
    try clear c1
    try clear p1
    try clear q1
    try clear hx1
    try clear qi1
    try clear p2
    try clear p6
    try clear c8
    try clear c8b0
    try clear c8b1
    try clear c9
    try clear c9b0
    try clear c9b1
    try clear p10
    try clear q10
    try clear hx10
    try clear qi10
    try clear hf10
    try clear c11
    try clear c13
    try clear c13b0
    try clear c13b1
    try clear c14
    try clear c14b0
    try clear c14b1
    try clear q16
    try clear c17
    try clear c17b0
    try clear c17b1
    try clear c18
    try clear c18b0
    try clear c18b1
    try clear p19
    try clear q19
    try clear hx19
    try clear qi19
    try clear hf19
    try clear hx10_0
    try clear hx19_0
    try clear p10
    try clear p19
    try clear q10
    try clear q16
    try clear q19
    obtain ⟨kq, x5_2, x6_2, x7_2, rfl, HA, HJ2, HO_5, HO_6, HB⟩ := hcut
    cases kq with
    | zero => exact absurd HA.out (by simp [tollbarlaw10_LevelForms.j0])
    | succ kj2 =>
      have H := HA.out
      clear HA
      simp only [tollbarlaw10_LevelForms.j0] at H
      replace H := Option.bind_eq_some_iff.mp H
      obtain ⟨⟨t699, t700⟩, A220, H⟩ := H
      replace H : ((level_Levels.f kj2 t699 t700 x5_2 x6_2 x7_2).bind fun bt703 => ((tollbarlaw10_awake.f kj2).bind fun t707 => (if t707 = true then ((tollbarlaw0_Num.f bt703.2).bind fun t708 => (some (t708 == 1000))) else (none)))) = some r := H
      have A22 := Aside0.mk A220
      clear A220
      replace H := Option.bind_eq_some_iff.mp H
      obtain ⟨⟨t703, t706⟩, A230, H⟩ := H
      replace H : ((tollbarlaw10_awake.f kj2).bind fun t707 => (if t707 = true then ((tollbarlaw0_Num.f t706).bind fun t708 => (some (t708 == 1000))) else (none))) = some r := H
      have A23 := Aside0.mk A230
      clear A230
      replace H := Option.bind_eq_some_iff.mp H
      obtain ⟨t707, A240, H⟩ := H
      replace H : (if t707 = true then ((tollbarlaw0_Num.f t706).bind fun t708 => (some (t708 == 1000))) else (none)) = some r := H
      have A24 := Aside0.mk A240
      clear A240
      by_cases c25 : t707 = true
      · subst c25
        have H1 : ((tollbarlaw0_Num.f t706).bind fun t708 => (some (t708 == 1000))) = some r := by rw [if_pos rfl] at H; exact H
        clear H
        have H := H1
        clear H1
        replace H := Option.bind_eq_some_iff.mp H
        obtain ⟨t708, A260, H⟩ := H
        replace H : (some (t708 == 1000)) = some r := H
        have A26 := Aside0.mk A260
        clear A260
        obtain rfl := Option.some.inj H
        go_wp2_with (first | ((with_reducible refine gate_callee (f := 34) rfl ?_); refine goesL_ (some 33) rfl rfl Try.func34 (by kernel_rfl) rfl #[] rfl (by (try simp only [List.map_toArray, List.map_cons, List.map_nil]); first | done | rfl | (simp only [List.length_drop, List.length_take]; rfl)) ?_; (with_reducible refine (tollbarlaw10_small.calls  t699 t700 _ A22.out).mono ?_); rintro e w27 ⟨v701, rfl, ho0, hb⟩; refine ⟨_, rfl, ?_⟩; have n0_ := Aside0.mk (Kd.R_below (by (with_reducible repeat (first | apply Kd.R_alloc | apply Kd.R_drewN | apply Kd.R_drew)); exact HO_5.out) hb); have n1_ := Aside0.mk (Kd.R_below (by (with_reducible repeat (first | apply Kd.R_alloc | apply Kd.R_drewN | apply Kd.R_drew)); exact HO_6.out) hb); have n2_ := Aside0.mk (Kd.R_lower ho0 (below_size (by repeat (first | (with_reducible first | exact HB.out | apply below_alloc | apply pw_below_drewN | apply below_drew1) | exact HB.out)))); have n3_ := Aside0.mk (below_step (by repeat (first | (with_reducible first | exact HB.out | apply below_alloc | apply pw_below_drewN | apply below_drew1) | exact HB.out)) hb); clear HO_5; clear HO_6; clear HB; have HO_5 := n0_; have HO_6 := n1_; have HO702 := n2_; have HB := n3_; clear n0_ n1_ n2_ n3_; (try clear hb); (try clear hb2); (try clear hk); (try clear hi); (try clear ho0); obtain ⟨Ao28, co28, eo28⟩ := Kd.R_slice HO702.out; subst eo28; obtain ⟨Ao29, co29, eo29⟩ := Kd.R_slice HO_5.out; subst eo29; obtain ⟨Ao30, co30, eo30⟩ := Kd.R_slice HO_6.out; subst eo30) | ((with_reducible refine gate_callee (f := 26) rfl ?_); refine goesL_ (some 37) rfl rfl Try.func26 (by kernel_rfl) rfl #[.agg #[.int .i64 t699, .slice Ao28 t700.length co28], .slice Ao29 x5_2.length co29, .slice Ao30 x6_2.length co30, .int .i64 x7_2] rfl (by (try simp only [List.map_toArray, List.map_cons, List.map_nil]); first | done | rfl | (simp only [List.length_drop, List.length_take]; rfl)) ?_; (with_reducible refine (level_Levels.calls kj2 t699 _ _ t700 _ _ x5_2 _ _ x6_2 x7_2 t703 t706 _ ?side1 ?side2 ?side3 ?side4 ?side5 ?side6 A23.out).mono ?_); (case side1 => repeat (first | exact (Kd.R_reads' HO702.out).2.2 | (with_reducible refine Kd.C_alloc ?_ _) | (with_reducible refine Kd.C_drewN ?_ _) | (with_reducible refine Kd.C_drew ?_))); (case side2 => exact (Kd.R_reads' HO702.out).2.1); (case side3 => repeat (first | exact (Kd.R_reads' HO_5.out).2.2 | (with_reducible refine Kd.C_alloc ?_ _) | (with_reducible refine Kd.C_drewN ?_ _) | (with_reducible refine Kd.C_drew ?_))); (case side4 => exact (Kd.R_reads' HO_5.out).2.1); (case side5 => repeat (first | exact (Kd.R_reads' HO_6.out).2.2 | (with_reducible refine Kd.C_alloc ?_ _) | (with_reducible refine Kd.C_drewN ?_ _) | (with_reducible refine Kd.C_drew ?_))); (case side6 => exact (Kd.R_reads' HO_6.out).2.1); rintro e w31 ⟨v704, rfl, ho0, hb⟩; refine ⟨_, rfl, ?_⟩; have n0_ := Aside0.mk (Kd.R_elder' (by (with_reducible repeat (first | apply Kd.R_alloc | apply Kd.R_drewN | apply Kd.R_drew)); exact HO_5.out) (Kd.R_base ho0) hb); have n1_ := Aside0.mk (Kd.R_elder' (by (with_reducible repeat (first | apply Kd.R_alloc | apply Kd.R_drewN | apply Kd.R_drew)); exact HO_6.out) (Kd.R_base ho0) hb); have n2_ := Aside0.mk (Kd.R_below (by (with_reducible repeat (first | apply Kd.R_alloc | apply Kd.R_drewN | apply Kd.R_drew)); exact HO702.out) hb); have n3_ := Aside0.mk (Kd.R_lower (Kd.R_new' (Kd.R_new' ho0 (Kd.R_lt (by (with_reducible repeat (first | apply Kd.R_alloc | apply Kd.R_drewN | apply Kd.R_drew)); exact HO_5.out))) (Kd.R_lt (by (with_reducible repeat (first | apply Kd.R_alloc | apply Kd.R_drewN | apply Kd.R_drew)); exact HO_6.out))) (below_size (by repeat (first | (with_reducible first | exact HB.out | apply below_alloc | apply pw_below_drewN | apply below_drew1) | exact HB.out)))); have n4_ := Aside0.mk (below_step (by repeat (first | (with_reducible first | exact HB.out | apply below_alloc | apply pw_below_drewN | apply below_drew1) | exact HB.out)) hb); clear HO_5; clear HO_6; clear HO702; clear HB; have HO_5 := n0_; have HO_6 := n1_; have HO702 := n2_; have HO705 := n3_; have HB := n4_; clear n0_ n1_ n2_ n3_ n4_; (try clear hb); (try clear hb2); (try clear hk); (try clear hi); (try clear ho0)) | ((with_reducible refine gate_callee (f := 28) rfl ?_); refine goesL_ (some 40) rfl rfl Try.func28 (by kernel_rfl) rfl #[] rfl (by (try simp only [List.map_toArray, List.map_cons, List.map_nil]); first | done | rfl | (simp only [List.length_drop, List.length_take]; rfl)) ?_; (with_reducible refine (tollbarlaw10_awake.calls kj2  true _ A24.out).mono ?_); rintro e w32 ⟨rfl, hb⟩; refine ⟨_, rfl, ?_⟩; have n0_ := Aside0.mk (Kd.R_below (by (with_reducible repeat (first | apply Kd.R_alloc | apply Kd.R_drewN | apply Kd.R_drew)); exact HO_5.out) hb); have n1_ := Aside0.mk (Kd.R_below (by (with_reducible repeat (first | apply Kd.R_alloc | apply Kd.R_drewN | apply Kd.R_drew)); exact HO_6.out) hb); have n2_ := Aside0.mk (Kd.R_below (by (with_reducible repeat (first | apply Kd.R_alloc | apply Kd.R_drewN | apply Kd.R_drew)); exact HO702.out) hb); have n3_ := Aside0.mk (Kd.R_below (by (with_reducible repeat (first | apply Kd.R_alloc | apply Kd.R_drewN | apply Kd.R_drew)); exact HO705.out) hb); have n4_ := Aside0.mk (below_step (by repeat (first | (with_reducible first | exact HB.out | apply below_alloc | apply pw_below_drewN | apply below_drew1) | exact HB.out)) hb); clear HO_5; clear HO_6; clear HO702; clear HO705; clear HB; have HO_5 := n0_; have HO_6 := n1_; have HO702 := n2_; have HO705 := n3_; have HB := n4_; clear n0_ n1_ n2_ n3_ n4_; (try clear hb); (try clear hb2); (try clear hk); (try clear hi)) | (go_at_call 20; (with_reducible refine (tollbarlaw0_Num.calls t706 t708 _ A26.out).mono ?_); rintro e w' ⟨rfl, ⟨nd, rfl⟩⟩))
        go_ret
        exact ⟨by first | rfl | (simp [errW_none, errW_some] <;> rfl) | (simp [*, errW_none, errW_some] <;> rfl), by repeat (first | (with_reducible first | exact HB.out | apply below_alloc | apply pw_below_drewN | apply below_drew1) | exact HB.out)⟩
      · replace c25 := Bool.eq_false_iff.mpr c25
        subst c25
        have H1 : (none) = some r := by rw [if_neg (show ¬ (false = true) by decide)] at H; exact H
        clear H
        have H := H1
        clear H1
        exact absurd H (by simp)

/-- THE ONE PURE STATEMENT of tollbarlaw10_LevelForms: yours. -/
def tollbarlaw10_LevelForms.Pure : Prop := ∀ (a0 : Int) (a1 : Int), (Lit.int .i64 a0).wf = true → (Lit.int .i64 a1).wf = true → ∃ k, tollbarlaw10_LevelForms.f k a0 a1 = some true
theorem tollbarlaw10_LevelForms.walk (P : tollbarlaw10_LevelForms.Pure) (a0 : Int) (a1 : Int) (w : World) (w0 : (Lit.int .i64 a0).wf = true) (w1 : (Lit.int .i64 a1).wf = true) :
    Calls Try.prog 11 #[.int .i64 a0, .int .i64 a1] w fun e w' => e = .returned (.bool true) ∧ Below w.heap.size w w' := by
  obtain ⟨k, h⟩ := P a0 a1 w0 w1
  refine (tollbarlaw10_LevelForms.calls k a0 a1 true w h).mono ?_
  rintro e w' ⟨rfl, hd⟩
  exact ⟨rfl, hd⟩
end Go.Proofs.Ytcfbfghdkgakmaa.PAll
end
