/- Texts of this claim, one behind the other: F7. -/
import Derived.Test.YtjpgnmbocklenaaAcf57aa
import Derived.Test.YtjpgnmbocklenaaA0b9b99
import Derived.Test.YtjpgnmbocklenaaA785d55
section
namespace Go.Proofs.Ytjpgnmbocklenaa.PAll
open Go.RowKit Go.Proofs.YtjpgnmbocklenaaW.PrintWords Go.Proofs.YtjpgnmbocklenaaW.PrintLast Go.Proofs.YtjpgnmbocklenaaW.PrintMore
attribute [local go_sem] max2_int min2_int max_two min_two max_three min_three max_four min_four   -- for this text's walks alone
set_option linter.unusedVariables false
set_option linter.unusedSimpArgs false
/-! ### tollbarlaw15_StrandForms: function 7 -/
def tollbarlaw15_StrandForms.j0 : Nat → List Int → Int → Int → Option (Bool)
 | 0, _, _, _ => none
 | k + 1, x5, x6, x7 => (tollbarlaw15_small.f).bind fun bt531 => ((strand_Split.f k bt531.1 bt531.2 x5 x6 x7).bind fun bt535 => ((tollbarlaw15_awake.f k).bind fun t539 => (if t539 = true then ((tollbarlaw0_Num.f bt535.2).bind fun t540 => (if t540 = 1500 then (some ((bt535.1.length : Int) == 0)) else (none))) else (none))))
def tollbarlaw15_StrandForms.f (k : Nat) (a0 : Int) (a1 : Int) : Option (Bool) := (some (([4, 4, 3] : List Int) : List Int)).bind fun y526 => (if (Go.bits .and .i64 a0 3) = 0 then (if 0 < (y526.length : Int) then (tollbarlaw15_StrandForms.j0 k (y526.set (0 : Int).toNat 3) 0 2) else (none)) else (if (Go.bits .and .i64 a0 3) = 1 then (if 2 < (y526.length : Int) then (tollbarlaw15_StrandForms.j0 k (y526.set (2 : Int).toNat 4) 0 2) else (none)) else (if (Go.bits .and .i64 a0 3) = 2 then (tollbarlaw15_StrandForms.j0 k y526 2 0) else (tollbarlaw15_StrandForms.j0 k y526 0 (wrap64 (3 + (Go.bits .and .i64 a1 1023)))))))
set_option maxHeartbeats 8000000 in
set_option maxRecDepth 100000 in
theorem tollbarlaw15_StrandForms.calls (k : Nat) (a0 : Int) (a1 : Int) (r : Bool) (w : World) (h : tollbarlaw15_StrandForms.f k a0 a1 = some r) :
  Calls Try.prog 7 #[.int .i64 a0, .int .i64 a1] w fun e w' => e = .returned (.bool r) ∧ Below w.heap.size w w' := by
 have HB := Aside0.mk (Below.refl w.heap.size w)
 have H : ((some (([4, 4, 3] : List Int) : List Int)).bind fun y526 => (if (Go.bits .and .i64 a0 3) = 0 then (if 0 < (y526.length : Int) then (tollbarlaw15_StrandForms.j0 k (y526.set (0 : Int).toNat 3) 0 2) else (none)) else (if (Go.bits .and .i64 a0 3) = 1 then (if 2 < (y526.length : Int) then (tollbarlaw15_StrandForms.j0 k (y526.set (2 : Int).toNat 4) 0 2) else (none)) else (if (Go.bits .and .i64 a0 3) = 2 then (tollbarlaw15_StrandForms.j0 k y526 2 0) else (tollbarlaw15_StrandForms.j0 k y526 0 (wrap64 (3 + (Go.bits .and .i64 a1 1023)))))))) = some r := h
 clear h
 obtain ⟨y526, hy526⟩ : ∃ y_ : List Int, y_ = (([4, 4, 3] : List Int)) := ⟨_, rfl⟩
 replace H : (if (Go.bits .and .i64 a0 3) = 0 then (if 0 < (y526.length : Int) then (tollbarlaw15_StrandForms.j0 k (y526.set (0 : Int).toNat 3) 0 2) else (none)) else (if (Go.bits .and .i64 a0 3) = 1 then (if 2 < (y526.length : Int) then (tollbarlaw15_StrandForms.j0 k (y526.set (2 : Int).toNat 4) 0 2) else (none)) else (if (Go.bits .and .i64 a0 3) = 2 then (tollbarlaw15_StrandForms.j0 k y526 2 0) else (tollbarlaw15_StrandForms.j0 k y526 0 (wrap64 (3 + (Go.bits .and .i64 a1 1023))))))) = some r := by first | (rw [hy526]; with_reducible exact H) | (have H2_ := (Option.bind_some _ _).symm.trans H; rw [hy526]; with_reducible exact H2_) | (have H2_ := (Option.bind_some _ _).symm.trans H; with_reducible exact H2_) | with_reducible exact H | (rw [hy526]; exact H) | exact H
 have Ny526 := Aside0.mk hy526
 clear hy526
 have HC3 := Aside0.mk H
 clear H
 go_enter Try.func7, Try.ntmps7
 go_upto_block 0 with (first | ((with_reducible refine gate_dst (N := 10) rfl ?_); (try (refine gate_guard (by rfl) ?_; dsimp only)); refine Kd.R_lit (Kd.int .i64) _ 3 ?hg (N := 10) ?hd (xs := ([4, 4, 3] : List Int)) (inner := [.int .i64 4, .int .i64 4, .int .i64 3]) (ok := fun _ => True) (okp := fun _ => True) ?hr ?hp (fun _ hk => hk) trivial (Below.refl _ _) (Nat.le_refl _) (by simp) ?_; (case hd => rfl); (case hg => rfl); (case hr => first | (go_simp; done) | (go_simp; rfl)); (case hp => exact (Reps.one (show Kd.M (Kd.int .i64) _ _ _ 4 [.int .i64 4] from rfl) (Reps.one (show Kd.M (Kd.int .i64) _ _ _ 4 [.int .i64 4] from rfl) (Reps.one (show Kd.M (Kd.int .i64) _ _ _ 3 [.int .i64 3] from rfl) (Reps.none _ _))))); intro v527 w4 ho5 hb hg_ hnew_; clear hg_ hnew_; (first | rw [← Ny526.out] at ho5 | (simp only [Int.reduceToNat] at ho5; rw [← Ny526.out] at ho5)); have n0_ := Aside0.mk (Kd.R_lower ho5 (below_size (by repeat (first | (with_reducible first | exact HB.out | apply below_alloc | apply pw_below_drewN | apply below_drew1) | exact HB.out)))); have n1_ := Aside0.mk (below_step (by repeat (first | (with_reducible first | exact HB.out | apply below_alloc | apply pw_below_drewN | apply below_drew1) | exact HB.out)) hb); clear HB; have HO528 := n0_; have HB := n1_; clear n0_ n1_; clear hb ho5))
 (try simp only [Act.put, List.setIfInBounds_toArray, List.set_cons_zero, List.set_cons_succ])
 go_cut [6, 7] (fun v6 v7 wc => ∃ (kq : Nat) (x5_2 : List Int) (x6_2 : Int) (x7_2 : Int), v6 = .int .i64 x6_2 ∧ v7 = .int .i64 x7_2 ∧ Aside0 (tollbarlaw15_StrandForms.j0 kq x5_2 x6_2 x7_2 = some r) ∧ Aside0 (kq ≤ k) ∧ Aside0 (Kd.R (Kd.int .i64) 3 wc w.heap.size (fun _ => True) v527 x5_2) ∧ Aside0 (Below w.heap.size w wc))
 case first =>
  have H := HC3.out
  clear HC3
  by_cases c6 : (Go.bits .and .i64 a0 3) = 0
  ·
   rw [if_pos c6] at H
   have c6b0 : ((Go.bits .and .i64 a0 3) == 0) = true := beq_iff_eq.mpr c6
   have c6b1 : ((Go.bits .and .i64 a0 3) != 0) = false := bne_eq_false_iff_eq.mpr c6
   clear c6
   (first | rw [c6b0] | (simp only [i64_w, i32_w]; rw [c6b0]) | skip)
   by_cases c7 : 0 < (y526.length : Int)
   ·
    rw [if_pos c7] at H
    have c7b0 : decide (0 < (y526.length : Int)) = true := decide_eq_true c7
    have c7b1 : decide (0 < y526.length) = true := decide_eq_true (by omega)
    clear c7
    obtain ⟨y529, hy529⟩ : ∃ y_ : List Int, y_ = (y526.set (0 : Int).toNat 3) := ⟨_, rfl⟩
    replace H : (tollbarlaw15_StrandForms.j0 k y529 0 2) = some r := by first | (rw [hy529]; with_reducible exact H) | (have H2_ := (Option.bind_some _ _).symm.trans H; rw [hy529]; with_reducible exact H2_) | (have H2_ := (Option.bind_some _ _).symm.trans H; with_reducible exact H2_) | with_reducible exact H | (rw [hy529]; exact H) | exact H
    have Ny529 := Aside0.mk hy529
    clear hy529
    have H' := Aside0.mk H
    clear H
    have p8 : 0 ≤ (0 : Int) := (by omega)
    have q8 : (0 : Int) < ((y526.length : Int) : Int) := of_decide_eq_true (by first | (with_reducible assumption) | assumption)
    have qi8 : (0 < y526.length) = True := eq_true (by omega)
    obtain ⟨go8, co8, eo8, gb8, gl8, cl8, HG8⟩ := Kd.R_form HO528.out (by omega)
    (first | cases eo8 | (injection eo8 with ea_ en_ ec_; (first | subst ea_ | (injection ea_ with ea_; subst ea_)); subst ec_; clear en_))
    have GB8 := Aside0.mk gb8
    have GG8 := Aside0.mk HG8
    clear gb8 gl8 HG8
    obtain ⟨hx8_0, hf8_0⟩ := Kd.R_celln 0 HO528.out (0 : Int) p8 q8
    (try rw [show ((0 : Int)).toNat = 0 from rfl] at hx8_0)
    (try simp only [Nat.reduceMul, Nat.zero_mul, Nat.zero_add, Nat.reduceAdd] at hx8_0)
    (try rw [show ((0 : Int)).toNat = 0 from rfl] at hf8_0)
    (try simp only [Nat.reduceMul, Nat.zero_mul, Nat.zero_add, Nat.reduceAdd] at hf8_0)
    replace p8 := eq_true p8
    replace q8 := eq_true q8
    have HP9 := Kd.R_putg HO528.out (0 : Int) 3
    go_wp2_with (first | ((with_reducible refine gate_store (t := 3) (p := 19) rfl ?_); refine store_event (t := 3) (p := 19) (v := ?vo_w10) (w1 := (w4.setCell ⟨go8, (0 : Int).toNat, none⟩ (.int .i64 3))) ?hg ?ho ?hn ?hr ?_; (case ho => rfl); (case hg => rfl); (case hn => rfl); (case hr => first | (go_simp; done) | (go_simp; rfl)); intro w10 hw; have hg : w4.grownBy w10 (some go8) := (by rw [hw]; exact HP9.2); have hp_ : Kd.R (Kd.int .i64) 3 w10 w.heap.size (fun _ => True) (.slice (some ⟨go8, 0, none⟩) y526.length co8) y529 := (by rw [hw, Ny529.out]; exact HP9.1); clear HP9; have n0_ := Aside0.mk (hp_); have n1_ := Aside0.mk ((by rw [hw]; exact below_set (HB.out) GB8.out : Below w.heap.size w w10)); clear HO528; clear HB; have HO528 := n0_; have HB := n1_; clear n0_ n1_; clear hg hw hp_))
    go_meet
    case rel => exact ⟨_, (y529), (0), (2), (by first | rfl | (simp; done) | (simp [*]; done)), (by first | rfl | (simp; done) | (simp [*]; done)), H', ⟨by first | omega | exact Nat.le_refl _⟩, ⟨by (with_reducible repeat (first | apply Kd.R_alloc | apply Kd.R_drewN | apply Kd.R_drew)); exact HO528.out⟩, ⟨by repeat (first | (with_reducible first | exact HB.out | apply below_alloc | apply pw_below_drewN | apply below_drew1) | exact HB.out)⟩⟩
   ·
    rw [if_neg c7] at H
    exact absurd H (by simp)
  ·
   rw [if_neg c6] at H
   have c6b0 : ((Go.bits .and .i64 a0 3) == 0) = false := beq_eq_false_iff_ne.mpr c6
   have c6b1 : ((Go.bits .and .i64 a0 3) != 0) = true := bne_iff_ne.mpr c6
   (first | rw [c6b0] | (simp only [i64_w, i32_w]; rw [c6b0]) | skip)
   by_cases c11 : (Go.bits .and .i64 a0 3) = 1
   ·
    rw [if_pos c11] at H
    have c11b0 : ((Go.bits .and .i64 a0 3) == 1) = true := beq_iff_eq.mpr c11
    have c11b1 : ((Go.bits .and .i64 a0 3) != 1) = false := bne_eq_false_iff_eq.mpr c11
    clear c11
    by_cases c12 : 2 < (y526.length : Int)
    ·
     rw [if_pos c12] at H
     have c12b0 : decide (2 < (y526.length : Int)) = true := decide_eq_true c12
     have c12b1 : decide (2 < y526.length) = true := decide_eq_true (by omega)
     clear c12
     obtain ⟨y530, hy530⟩ : ∃ y_ : List Int, y_ = (y526.set (2 : Int).toNat 4) := ⟨_, rfl⟩
     replace H : (tollbarlaw15_StrandForms.j0 k y530 0 2) = some r := by first | (rw [hy530]; with_reducible exact H) | (have H2_ := (Option.bind_some _ _).symm.trans H; rw [hy530]; with_reducible exact H2_) | (have H2_ := (Option.bind_some _ _).symm.trans H; with_reducible exact H2_) | with_reducible exact H | (rw [hy530]; exact H) | exact H
     have Ny530 := Aside0.mk hy530
     clear hy530
     have H' := Aside0.mk H
     clear H
     have p13 : 0 ≤ (2 : Int) := (by omega)
     have q13 : (2 : Int) < ((y526.length : Int) : Int) := of_decide_eq_true (by first | (with_reducible assumption) | assumption)
     have qi13 : (2 < y526.length) = True := eq_true (by omega)
     obtain ⟨go13, co13, eo13, gb13, gl13, cl13, HG13⟩ := Kd.R_form HO528.out (by omega)
     (first | cases eo13 | (injection eo13 with ea_ en_ ec_; (first | subst ea_ | (injection ea_ with ea_; subst ea_)); subst ec_; clear en_))
     have GB13 := Aside0.mk gb13
     have GG13 := Aside0.mk HG13
     clear gb13 gl13 HG13
     obtain ⟨hx13_0, hf13_0⟩ := Kd.R_celln 0 HO528.out (2 : Int) p13 q13
     (try rw [show ((2 : Int)).toNat = 2 from rfl] at hx13_0)
     (try simp only [Nat.reduceMul, Nat.zero_mul, Nat.zero_add, Nat.reduceAdd] at hx13_0)
     (try rw [show ((2 : Int)).toNat = 2 from rfl] at hf13_0)
     (try simp only [Nat.reduceMul, Nat.zero_mul, Nat.zero_add, Nat.reduceAdd] at hf13_0)
     replace p13 := eq_true p13
     replace q13 := eq_true q13
     have HP14 := Kd.R_putg HO528.out (2 : Int) 4
     go_wp2_with (first | ((with_reducible refine gate_store (t := 3) (p := 23) rfl ?_); refine store_event (t := 3) (p := 23) (v := ?vo_w15) (w1 := (w4.setCell ⟨go13, (2 : Int).toNat, none⟩ (.int .i64 4))) ?hg ?ho ?hn ?hr ?_; (case ho => rfl); (case hg => rfl); (case hn => rfl); (case hr => first | (go_simp; done) | (go_simp; rfl)); intro w15 hw; have hg : w4.grownBy w15 (some go13) := (by rw [hw]; exact HP14.2); have hp_ : Kd.R (Kd.int .i64) 3 w15 w.heap.size (fun _ => True) (.slice (some ⟨go13, 0, none⟩) y526.length co13) y530 := (by rw [hw, Ny530.out]; exact HP14.1); clear HP14; have n0_ := Aside0.mk (hp_); have n1_ := Aside0.mk ((by rw [hw]; exact below_set (HB.out) GB13.out : Below w.heap.size w w15)); clear HO528; clear HB; have HO528 := n0_; have HB := n1_; clear n0_ n1_; clear hg hw hp_))
     go_meet
     case rel => exact ⟨_, (y530), (0), (2), (by first | rfl | (simp; done) | (simp [*]; done)), (by first | rfl | (simp; done) | (simp [*]; done)), H', ⟨by first | omega | exact Nat.le_refl _⟩, ⟨by (with_reducible repeat (first | apply Kd.R_alloc | apply Kd.R_drewN | apply Kd.R_drew)); exact HO528.out⟩, ⟨by repeat (first | (with_reducible first | exact HB.out | apply below_alloc | apply pw_below_drewN | apply below_drew1) | exact HB.out)⟩⟩
    ·
     rw [if_neg c12] at H
     exact absurd H (by simp)
   ·
    rw [if_neg c11] at H
    have c11b0 : ((Go.bits .and .i64 a0 3) == 1) = false := beq_eq_false_iff_ne.mpr c11
    have c11b1 : ((Go.bits .and .i64 a0 3) != 1) = true := bne_iff_ne.mpr c11
    by_cases c16 : (Go.bits .and .i64 a0 3) = 2
    ·
     rw [if_pos c16] at H
     have c16b0 : ((Go.bits .and .i64 a0 3) == 2) = true := beq_iff_eq.mpr c16
     have c16b1 : ((Go.bits .and .i64 a0 3) != 2) = false := bne_eq_false_iff_eq.mpr c16
     clear c16
     have H' := Aside0.mk H
     clear H
     go_wp2
     go_meet
     case rel => exact ⟨_, (y526), (2), (0), (by first | rfl | (simp; done) | (simp [*]; done)), (by first | rfl | (simp; done) | (simp [*]; done)), H', ⟨by first | omega | exact Nat.le_refl _⟩, ⟨by (with_reducible repeat (first | apply Kd.R_alloc | apply Kd.R_drewN | apply Kd.R_drew)); exact HO528.out⟩, ⟨by repeat (first | (with_reducible first | exact HB.out | apply below_alloc | apply pw_below_drewN | apply below_drew1) | exact HB.out)⟩⟩
    ·
     rw [if_neg c16] at H
     have c16b0 : ((Go.bits .and .i64 a0 3) == 2) = false := beq_eq_false_iff_ne.mpr c16
     have c16b1 : ((Go.bits .and .i64 a0 3) != 2) = true := bne_iff_ne.mpr c16
     have H' := Aside0.mk H
     clear H
     go_wp2
     go_meet
     case rel => exact ⟨_, (y526), (0), (wrap64 (3 + (Go.bits .and .i64 a1 1023))), (by first | rfl | (simp; done) | (simp [*]; done)), (by first | rfl | (simp; done) | (simp [*]; done)), H', ⟨by first | omega | exact Nat.le_refl _⟩, ⟨by (with_reducible repeat (first | apply Kd.R_alloc | apply Kd.R_drewN | apply Kd.R_drew)); exact HO528.out⟩, ⟨by repeat (first | (with_reducible first | exact HB.out | apply below_alloc | apply pw_below_drewN | apply below_drew1) | exact HB.out)⟩⟩
 case rest =>
  clear HC3
  try clear c1
  try clear p1
  try clear q1
  try clear hx1
  try clear qi1
  try clear p2
  try clear c6
  try clear c6b0
  try clear c6b1
  try clear p6
  try clear c7
  try clear c7b0
  try clear c7b1
  try clear p8
  try clear q8
  try clear hx8
  try clear qi8
  try clear hf8
  try clear c11
  try clear c11b0
  try clear c11b1
  try clear c12
  try clear c12b0
  try clear c12b1
  try clear p13
  try clear q13
  try clear hx13
  try clear qi13
  try clear hf13
  try clear c16
  try clear c16b0
  try clear c16b1
  try clear hx13_0
  try clear hx8_0
  try clear p13
  try clear p8
  try clear q13
  try clear q8
  obtain ⟨kq, x5_2, x6_2, x7_2, rfl, rfl, HA, HJ2, HO_5, HB⟩ := hcut
  cases kq with
  | zero => exact absurd HA.out (by simp [tollbarlaw15_StrandForms.j0])
  | succ kj2 =>
   have H := HA.out
   clear HA
   simp only [tollbarlaw15_StrandForms.j0] at H
   replace H := Option.bind_eq_some_iff.mp H
   obtain ⟨⟨t531, t532⟩, A170, H⟩ := H
   replace H : ((strand_Split.f kj2 t531 t532 x5_2 x6_2 x7_2).bind fun bt535 => ((tollbarlaw15_awake.f kj2).bind fun t539 => (if t539 = true then ((tollbarlaw0_Num.f bt535.2).bind fun t540 => (if t540 = 1500 then (some ((bt535.1.length : Int) == 0)) else (none))) else (none)))) = some r := H
   have A17 := Aside0.mk A170
   clear A170
   replace H := Option.bind_eq_some_iff.mp H
   obtain ⟨⟨t535, t538⟩, A180, H⟩ := H
   replace H : ((tollbarlaw15_awake.f kj2).bind fun t539 => (if t539 = true then ((tollbarlaw0_Num.f t538).bind fun t540 => (if t540 = 1500 then (some ((t535.length : Int) == 0)) else (none))) else (none))) = some r := H
   have A18 := Aside0.mk A180
   clear A180
   replace H := Option.bind_eq_some_iff.mp H
   obtain ⟨t539, A190, H⟩ := H
   replace H : (if t539 = true then ((tollbarlaw0_Num.f t538).bind fun t540 => (if t540 = 1500 then (some ((t535.length : Int) == 0)) else (none))) else (none)) = some r := H
   have A19 := Aside0.mk A190
   clear A190
   by_cases c20 : t539 = true
   ·
    subst c20
    have H1 : ((tollbarlaw0_Num.f t538).bind fun t540 => (if t540 = 1500 then (some ((t535.length : Int) == 0)) else (none))) = some r := by rw [if_pos rfl] at H; exact H
    clear H
    have H := H1
    clear H1
    replace H := Option.bind_eq_some_iff.mp H
    obtain ⟨t540, A210, H⟩ := H
    replace H : (if t540 = 1500 then (some ((t535.length : Int) == 0)) else (none)) = some r := H
    have A21 := Aside0.mk A210
    clear A210
    by_cases c22 : t540 = 1500
    ·
     rw [if_pos c22] at H
     have c22b0 : (t540 == 1500) = true := beq_iff_eq.mpr c22
     have c22b1 : (t540 != 1500) = false := bne_eq_false_iff_eq.mpr c22
     clear c22
     obtain rfl := Option.some.inj H
     go_wp2_with (first | ((with_reducible refine gate_callee (f := 23) rfl ?_); refine goesL_ (some 27) rfl rfl Try.func23 (by kernel_rfl) rfl #[] rfl (by (try simp only [List.map_toArray, List.map_cons, List.map_nil]); first | done | rfl | (simp only [List.length_drop, List.length_take]; rfl)) ?_; (with_reducible refine (tollbarlaw15_small.calls  t531 t532 _ A17.out).mono ?_); rintro e w23 ⟨v533, rfl, ho0, hb⟩; refine ⟨_, rfl, ?_⟩; have n0_ := Aside0.mk (Kd.R_below (by (with_reducible repeat (first | apply Kd.R_alloc | apply Kd.R_drewN | apply Kd.R_drew)); exact HO_5.out) hb); have n1_ := Aside0.mk (Kd.R_lower ho0 (below_size (by repeat (first | (with_reducible first | exact HB.out | apply below_alloc | apply pw_below_drewN | apply below_drew1) | exact HB.out)))); have n2_ := Aside0.mk (below_step (by repeat (first | (with_reducible first | exact HB.out | apply below_alloc | apply pw_below_drewN | apply below_drew1) | exact HB.out)) hb); clear HO_5; clear HB; have HO_5 := n0_; have HO534 := n1_; have HB := n2_; clear n0_ n1_ n2_; (try clear hb); (try clear hb2); (try clear hk); (try clear hi); (try clear ho0); obtain ⟨Ao24, co24, eo24⟩ := Kd.R_slice HO534.out; subst eo24; obtain ⟨Ao25, co25, eo25⟩ := Kd.R_slice HO_5.out; subst eo25) | ((with_reducible refine gate_callee (f := 9) rfl ?_); refine goesL_ (some 31) rfl rfl Try.func9 (by kernel_rfl) rfl #[.agg #[.int .i64 t531, .slice Ao24 t532.length co24], .slice Ao25 x5_2.length co25, .int .i64 x6_2, .int .i64 x7_2] rfl (by (try simp only [List.map_toArray, List.map_cons, List.map_nil]); first | done | rfl | (simp only [List.length_drop, List.length_take]; rfl)) ?_; (with_reducible refine (strand_Split.calls kj2 t531 _ _ t532 _ _ x5_2 x6_2 x7_2 t535 t538 _ ?side1 ?side2 ?side3 ?side4 A18.out).mono ?_); (case side1 => repeat (first | exact (Kd.R_reads' HO534.out).2.2 | (with_reducible refine Kd.C_alloc ?_ _) | (with_reducible refine Kd.C_drewN ?_ _) | (with_reducible refine Kd.C_drew ?_))); (case side2 => exact (Kd.R_reads' HO534.out).2.1); (case side3 => repeat (first | exact (Kd.R_reads' HO_5.out).2.2 | (with_reducible refine Kd.C_alloc ?_ _) | (with_reducible refine Kd.C_drewN ?_ _) | (with_reducible refine Kd.C_drew ?_))); (case side4 => exact (Kd.R_reads' HO_5.out).2.1); rintro e w26 ⟨v536, rfl, ho0, hb⟩; refine ⟨_, rfl, ?_⟩; have n0_ := Aside0.mk (Kd.R_below (by (with_reducible repeat (first | apply Kd.R_alloc | apply Kd.R_drewN | apply Kd.R_drew)); exact HO_5.out) hb); have n1_ := Aside0.mk (Kd.R_below (by (with_reducible repeat (first | apply Kd.R_alloc | apply Kd.R_drewN | apply Kd.R_drew)); exact HO534.out) hb); have n2_ := Aside0.mk (Kd.S_lower (Kd.S_new' ho0 (Kd.R_lt (by (with_reducible repeat (first | apply Kd.R_alloc | apply Kd.R_drewN | apply Kd.R_drew)); exact HO_5.out))) (below_size (by repeat (first | (with_reducible first | exact HB.out | apply below_alloc | apply pw_below_drewN | apply below_drew1) | exact HB.out)))); have n3_ := Aside0.mk (below_step (by repeat (first | (with_reducible first | exact HB.out | apply below_alloc | apply pw_below_drewN | apply below_drew1) | exact HB.out)) hb); clear HO_5; clear HO534; clear HB; have HO_5 := n0_; have HO534 := n1_; have HO537 := n2_; have HB := n3_; clear n0_ n1_ n2_ n3_; (try clear hb); (try clear hb2); (try clear hk); (try clear hi); (try clear ho0)) | ((with_reducible refine gate_callee (f := 11) rfl ?_); refine goesL_ (some 34) rfl rfl Try.func11 (by kernel_rfl) rfl #[] rfl (by (try simp only [List.map_toArray, List.map_cons, List.map_nil]); first | done | rfl | (simp only [List.length_drop, List.length_take]; rfl)) ?_; (with_reducible refine (tollbarlaw15_awake.calls kj2  true _ A19.out).mono ?_); rintro e w27 ⟨rfl, hb⟩; refine ⟨_, rfl, ?_⟩; have n0_ := Aside0.mk (Kd.R_below (by (with_reducible repeat (first | apply Kd.R_alloc | apply Kd.R_drewN | apply Kd.R_drew)); exact HO_5.out) hb); have n1_ := Aside0.mk (Kd.R_below (by (with_reducible repeat (first | apply Kd.R_alloc | apply Kd.R_drewN | apply Kd.R_drew)); exact HO534.out) hb); have n2_ := Aside0.mk (Kd.S_below (by (with_reducible repeat (first | apply Kd.S_alloc | apply Kd.S_drewN | apply Kd.S_drew)); exact HO537.out) hb); have n3_ := Aside0.mk (below_step (by repeat (first | (with_reducible first | exact HB.out | apply below_alloc | apply pw_below_drewN | apply below_drew1) | exact HB.out)) hb); clear HO_5; clear HO534; clear HO537; clear HB; have HO_5 := n0_; have HO534 := n1_; have HO537 := n2_; have HB := n3_; clear n0_ n1_ n2_ n3_; (try clear hb); (try clear hb2); (try clear hk); (try clear hi)) | (go_at_call 12; (with_reducible refine (tollbarlaw0_Num.calls t538 t540 _ A21.out).mono ?_); rintro e w' ⟨rfl, ⟨nd, rfl⟩⟩; obtain ⟨Ao28, co28, eo28⟩ := Kd.S_slice HO537.out; subst eo28))
     go_ret
     exact ⟨by first | rfl | (simp [errW_none, errW_some] <;> rfl) | (simp [*, errW_none, errW_some] <;> rfl), by repeat (first | (with_reducible first | exact HB.out | apply below_alloc | apply pw_below_drewN | apply below_drew1) | exact HB.out)⟩
    ·
     rw [if_neg c22] at H
     exact absurd H (by simp)
   ·
    replace c20 := Bool.eq_false_iff.mpr c20
    subst c20
    have H1 : (none) = some r := by rw [if_neg (show ¬ (false = true) by decide)] at H; exact H
    clear H
    have H := H1
    clear H1
    exact absurd H (by simp)

/-- THE ONE PURE STATEMENT of tollbarlaw15_StrandForms: yours. -/
def tollbarlaw15_StrandForms.Pure : Prop := ∀ (a0 : Int) (a1 : Int), (Lit.int .i64 a0).wf = true → (Lit.int .i64 a1).wf = true → ∃ k, tollbarlaw15_StrandForms.f k a0 a1 = some true
theorem tollbarlaw15_StrandForms.walk (P : tollbarlaw15_StrandForms.Pure) (a0 : Int) (a1 : Int) (w : World) (w0 : (Lit.int .i64 a0).wf = true) (w1 : (Lit.int .i64 a1).wf = true) :
  Calls Try.prog 7 #[.int .i64 a0, .int .i64 a1] w fun e w' => e = .returned (.bool true) ∧ Below w.heap.size w w' := by
 obtain ⟨k, h⟩ := P a0 a1 w0 w1
 refine (tollbarlaw15_StrandForms.calls k a0 a1 true w h).mono ?_
 rintro e w' ⟨rfl, hd⟩
 exact ⟨rfl, hd⟩
end Go.Proofs.Ytjpgnmbocklenaa.PAll
end
