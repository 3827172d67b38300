/- Texts of this claim, one behind the other: F26, F45, F16, F18, F50, F25, F23, F56, F57, F58, F35, F52, F27, F29, F30, F55, F31, F8. -/
import Derived.Test.YtnbhfcanknhkhaaA449cc4
import Derived.Test.YtnbhfcanknhkhaaAa05a7b
section
namespace Go.Proofs.Ytnbhfcanknhkhaa.PAll
open Go.RowKit Go.Proofs.YtnbhfcanknhkhaaW.PrintWords Go.Proofs.YtnbhfcanknhkhaaW.PrintLast Go.Proofs.YtnbhfcanknhkhaaW.PrintMore
attribute [local go_sem] max2_int min2_int max_two min_two max_three min_three max_four min_four   -- for this text's walks alone
set_option linter.unusedVariables false
set_option linter.unusedSimpArgs false
set_option maxHeartbeats 8000000
set_option maxRecDepth 100000
mutual
def tollbarref4_CapsMay.j0 : Nat → List Int → Bool → Int → List (S53) → Option (Bool)
 | 0, _, _, _, _ => none
 | k + 1, x1, x16, xkb, xka => if x16 = true then (some false) else (tollbarref4_CapsMay.l0 k x1 0 xkb xka)
def tollbarref4_CapsMay.l0 : Nat → List Int → Int → Int → List (S53) → Option (Bool)
 | 0, _, _, _, _ => none
 | k + 1, x1, x5, xkb, xka => if x5 < (x1.length : Int) then (if 0 ≤ x5 then (if (rd x1 x5) < 0 then (some false) else (if x5 < (xka.length : Int) then (if (rd x1 x5) > ((rd_T53 xka x5).f2) then (some false) else (tollbarref4_CapsMay.l0 k x1 (wrap64 (x5 + 1)) xkb xka)) else (none))) else (none)) else (some true)
end
def tollbarref4_CapsMay.f (k : Nat) (a0_0 : Int) (l0_1 : List (S53)) (l1 : List Int) : Option (Bool) := (tollbarref4_GraphMay.f k a0_0 l0_1).bind fun t370 => (if t370 = true then (tollbarref4_CapsMay.j0 k l1 ((l1.length : Int) != (l0_1.length : Int)) a0_0 l0_1) else (tollbarref4_CapsMay.j0 k l1 true a0_0 l0_1))
theorem tollbarref4_CapsMay.calls (k : Nat) (a0_0 : Int) (A0_1 : Option Addr) (c0_1 : Nat) (l0_1 : List (S53)) (A1 : Option Addr) (c1 : Nat) (l1 : List Int) (r : Bool) (w : World) (hr0_1 : Kd.C k53 w A0_1 l0_1.length l0_1) (hc0_1 : l0_1.length ≤ c0_1) (hr1 : Kd.C (Kd.int .i64) w A1 l1.length l1) (hc1 : l1.length ≤ c1) (h : tollbarref4_CapsMay.f k a0_0 l0_1 l1 = some r) :
  Calls Try.prog 26 #[.agg #[.int .i64 a0_0, .slice A0_1 l0_1.length c0_1], .slice A1 l1.length c1] w fun e w' => e = .returned (.bool r) ∧ Below w.heap.size w w' := by
 have hu24 := Try.underlying24; have HR0_1 := ak hr0_1; have HC0_1 := ak hc0_1; clear hr0_1 hc0_1; have HR1 := ak hr1; have HC1 := ak hc1; clear hr1 hc1; have HB := ak (Below.refl w.heap.size w); have H : ((tollbarref4_GraphMay.f k a0_0 l0_1).bind fun t370 => (if t370 = true then (tollbarref4_CapsMay.j0 k l1 ((l1.length : Int) != (l0_1.length : Int)) a0_0 l0_1) else (tollbarref4_CapsMay.j0 k l1 true a0_0 l0_1))) = some r := h; clear h; have HC3 := ak H; clear H
 go_enter Try.func26, Try.ntmps26
 go_upto_region 1 with (first | ((with_reducible refine gate_dst (N := 2) rfl ?_); (try (refine gate_guard (by rfl) ?_; dsimp only)); refine box_event ?hg (N := 2) ?hd (cs := #[.int .i64 a0_0, .slice A0_1 l0_1.length c0_1]) (t := 24) ?hr ?_; (case hd => rfl); (case hg => rfl); (case hr => first | (go_simp; done) | (go_simp; rfl)); intro gb369 hg w4 hbox hb; have BK369 := ak (hbox); have GW369 := ak ((by rw [hg]; exact (below_size HB.out) : w.heap.size ≤ gb369)); have GE369 := ak ((by rw [hg]; exact (below_size HB.out) : w.heap.size ≤ gb369)); replace HB := ak (below_step HB.out hb); clear hb hbox hg))
 repeat (go_quiet (first | ((with_reducible refine gate_dst (N := 2) rfl ?_); (try (refine gate_guard (by rfl) ?_; dsimp only)); refine box_event ?hg (N := 2) ?hd (cs := #[.int .i64 a0_0, .slice A0_1 l0_1.length c0_1]) (t := 24) ?hr ?_; (case hd => rfl); (case hg => rfl); (case hr => first | (go_simp; done) | (go_simp; rfl)); intro gb369 hg w4 hbox hb; have BK369 := ak (hbox); have GW369 := ak ((by rw [hg]; exact (below_size HB.out) : w.heap.size ≤ gb369)); have GE369 := ak ((by rw [hg]; exact (below_size HB.out) : w.heap.size ≤ gb369)); replace HB := ak (below_step HB.out hb); clear hb hbox hg)); go_upto_region 1 with (first | ((with_reducible refine gate_dst (N := 2) rfl ?_); (try (refine gate_guard (by rfl) ?_; dsimp only)); refine box_event ?hg (N := 2) ?hd (cs := #[.int .i64 a0_0, .slice A0_1 l0_1.length c0_1]) (t := 24) ?hr ?_; (case hd => rfl); (case hg => rfl); (case hr => first | (go_simp; done) | (go_simp; rfl)); intro gb369 hg w4 hbox hb; have BK369 := ak (hbox); have GW369 := ak ((by rw [hg]; exact (below_size HB.out) : w.heap.size ≤ gb369)); have GE369 := ak ((by rw [hg]; exact (below_size HB.out) : w.heap.size ≤ gb369)); replace HB := ak (below_step HB.out hb); clear hb hbox hg)))
 (try simp only [Act.put, List.setIfInBounds_toArray, List.set_cons_zero, List.set_cons_succ])
 go_cut [16] (fun v16 wc => ∃ (kq : Nat) (x16_2 : Bool), v16 = .bool x16_2 ∧ Aside0 (tollbarref4_CapsMay.j0 kq l1 x16_2 a0_0 l0_1 = some r) ∧ Aside0 (kq ≤ k) ∧ Aside0 (wc.heap[gb369]? = some (.cells #[.int .i64 a0_0, (.slice A0_1 l0_1.length c0_1)] 24 (0, 0))) ∧ Aside0 (Below w.heap.size w wc))
 case first =>
  have H := HC3.out; clear HC3; replace H := Option.bind_eq_some_iff.mp H; obtain ⟨t370, A50, H⟩ := H; replace H : (if t370 = true then (tollbarref4_CapsMay.j0 k l1 ((l1.length : Int) != (l0_1.length : Int)) a0_0 l0_1) else (tollbarref4_CapsMay.j0 k l1 true a0_0 l0_1)) = some r := H; have A5 := ak A50; clear A50
  by_cases c6 : t370 = true
  ·
   subst c6
   have H1 : (tollbarref4_CapsMay.j0 k l1 ((l1.length : Int) != (l0_1.length : Int)) a0_0 l0_1) = some r := by rw [if_pos rfl] at H; exact H
   clear H; have H := H1; clear H1; have H' := ak H; clear H; have hcz7_0 := bkat BK369.out 0; have hcz7_1 := bkat BK369.out 1; have hfz7_0 := blk_frozen BK369.out 0; have hfz7_1 := blk_frozen BK369.out 1
   go_wp2_with (first | (go_at_call 51; (with_reducible refine (tollbarref4_GraphMay.calls k a0_0 _ _ l0_1 true _ ?side1 ?side2 A5.out).mono ?_); (case side1 => exact (Kd.C_below HR0_1.out HB.out)); (case side2 => exact HC0_1.out); rintro e w8 ⟨rfl, hb⟩; have n0_ := ak (blk_below BK369.out hb); have n1_ := ak (below_step HB.out hb); clear BK369; clear HB; have BK369 := n0_; have HB := n1_; clear n0_ n1_; (try clear hb); (try clear hb2); (try clear hk); (try clear hi); have hcz9_0 := bkat BK369.out 0; have hcz9_1 := bkat BK369.out 1; have hfz9_0 := blk_frozen BK369.out 0; have hfz9_1 := blk_frozen BK369.out 1))
   repeat (go_quiet (first | (go_at_call 51; (with_reducible refine (tollbarref4_GraphMay.calls k a0_0 _ _ l0_1 true _ ?side1 ?side2 A5.out).mono ?_); (case side1 => exact (Kd.C_below HR0_1.out HB.out)); (case side2 => exact HC0_1.out); rintro e w8 ⟨rfl, hb⟩; have n0_ := ak (blk_below BK369.out hb); have n1_ := ak (below_step HB.out hb); clear BK369; clear HB; have BK369 := n0_; have HB := n1_; clear n0_ n1_; (try clear hb); (try clear hb2); (try clear hk); (try clear hi); have hcz9_0 := bkat BK369.out 0; have hcz9_1 := bkat BK369.out 1; have hfz9_0 := blk_frozen BK369.out 0; have hfz9_1 := blk_frozen BK369.out 1)); try go_wp2_with (first | (go_at_call 51; (with_reducible refine (tollbarref4_GraphMay.calls k a0_0 _ _ l0_1 true _ ?side1 ?side2 A5.out).mono ?_); (case side1 => exact (Kd.C_below HR0_1.out HB.out)); (case side2 => exact HC0_1.out); rintro e w8 ⟨rfl, hb⟩; have n0_ := ak (blk_below BK369.out hb); have n1_ := ak (below_step HB.out hb); clear BK369; clear HB; have BK369 := n0_; have HB := n1_; clear n0_ n1_; (try clear hb); (try clear hb2); (try clear hk); (try clear hi); have hcz9_0 := bkat BK369.out 0; have hcz9_1 := bkat BK369.out 1; have hfz9_0 := blk_frozen BK369.out 0; have hfz9_1 := blk_frozen BK369.out 1)))
   go_meet
   case rel => exact ⟨_, (((l1.length : Int) != (l0_1.length : Int))), (by first | rfl | (simp; done) | (simp [*]; done)), H', ⟨by first | omega | exact Nat.le_refl _⟩, ⟨BK369.out⟩, ⟨HB.out⟩⟩
  ·
   replace c6 := Bool.eq_false_iff.mpr c6; subst c6
   have H1 : (tollbarref4_CapsMay.j0 k l1 true a0_0 l0_1) = some r := by rw [if_neg (show ¬ (false = true) by decide)] at H; exact H
   clear H; have H := H1; clear H1; have H' := ak H; clear H; have hcz10_0 := bkat BK369.out 0; have hcz10_1 := bkat BK369.out 1; have hfz10_0 := blk_frozen BK369.out 0; have hfz10_1 := blk_frozen BK369.out 1
   go_wp2_with (first | (go_at_call 51; (with_reducible refine (tollbarref4_GraphMay.calls k a0_0 _ _ l0_1 false _ ?side1 ?side2 A5.out).mono ?_); (case side1 => exact (Kd.C_below HR0_1.out HB.out)); (case side2 => exact HC0_1.out); rintro e w11 ⟨rfl, hb⟩; have n0_ := ak (blk_below BK369.out hb); have n1_ := ak (below_step HB.out hb); clear BK369; clear HB; have BK369 := n0_; have HB := n1_; clear n0_ n1_; (try clear hb); (try clear hb2); (try clear hk); (try clear hi)))
   repeat (go_quiet (first | (go_at_call 51; (with_reducible refine (tollbarref4_GraphMay.calls k a0_0 _ _ l0_1 false _ ?side1 ?side2 A5.out).mono ?_); (case side1 => exact (Kd.C_below HR0_1.out HB.out)); (case side2 => exact HC0_1.out); rintro e w11 ⟨rfl, hb⟩; have n0_ := ak (blk_below BK369.out hb); have n1_ := ak (below_step HB.out hb); clear BK369; clear HB; have BK369 := n0_; have HB := n1_; clear n0_ n1_; (try clear hb); (try clear hb2); (try clear hk); (try clear hi))); try go_wp2_with (first | (go_at_call 51; (with_reducible refine (tollbarref4_GraphMay.calls k a0_0 _ _ l0_1 false _ ?side1 ?side2 A5.out).mono ?_); (case side1 => exact (Kd.C_below HR0_1.out HB.out)); (case side2 => exact HC0_1.out); rintro e w11 ⟨rfl, hb⟩; have n0_ := ak (blk_below BK369.out hb); have n1_ := ak (below_step HB.out hb); clear BK369; clear HB; have BK369 := n0_; have HB := n1_; clear n0_ n1_; (try clear hb); (try clear hb2); (try clear hk); (try clear hi))))
   go_meet
   case rel => exact ⟨_, (true), (by first | rfl | (simp; done) | (simp [*]; done)), H', ⟨by first | omega | exact Nat.le_refl _⟩, ⟨BK369.out⟩, ⟨HB.out⟩⟩
 case rest =>
  clear HC3
  repeat (first | clear c1 | clear c2 | clear p2 | clear c6 | clear hcz10_0 | clear hcz10_1 | clear hcz7_0 | clear hcz7_1 | clear hcz9_0 | clear hcz9_1 | clear hfz10_0 | clear hfz10_1 | clear hfz7_0 | clear hfz7_1 | clear hfz9_0 | clear hfz9_1)
  obtain ⟨kq, x16_2, rfl, HA, HJ2, BK369, HB⟩ := hcut; cases kq with
  | zero => exact absurd HA.out (by simp [tollbarref4_CapsMay.j0])
  | succ kj2 =>
   have H := HA.out; clear HA; simp only [tollbarref4_CapsMay.j0] at H
   by_cases c12 : x16_2 = true
   ·
    subst c12
    have H1 : (some false) = some r := by rw [if_pos rfl] at H; exact H
    clear H; have H := H1; clear H1; obtain rfl := Option.some.inj H
    go_wp2
    repeat (go_quiet (fail); try go_wp2)
    go_ret
    exact ⟨by first | rfl | (simp [errW_none, errW_some] <;> rfl) | (simp [*, errW_none, errW_some] <;> rfl), bq1 HB.out GE369.out⟩
   ·
    replace c12 := Bool.eq_false_iff.mpr c12; subst c12
    have H1 : (tollbarref4_CapsMay.l0 kj2 l1 0 a0_0 l0_1) = some r := by rw [if_neg (show ¬ (false = true) by decide)] at H; exact H
    clear H; have H := H1; clear H1; have H' := ak H; clear H
    go_wp2
    repeat (go_quiet (fail); try go_wp2)
    go_loopg [5] kj2 (fun kq v5 w' => ∃ (x5_2 : Int), v5 = .int .i64 x5_2 ∧ Aside0 (tollbarref4_CapsMay.l0 kq l1 x5_2 a0_0 l0_1 = some r) ∧ Aside0 (kq ≤ kj2) ∧ Aside0 (w'.heap[gb369]? = some (.cells #[.int .i64 a0_0, (.slice A0_1 l0_1.length c0_1)] 24 (0, 0))) ∧ Aside0 (Below w.heap.size w w'))
    case atStart => exact ⟨(0), (by first | rfl | (simp; done) | (simp [*]; done)), H', ⟨Nat.le_refl _⟩, ⟨BK369.out⟩, ⟨HB.out⟩⟩
    case round =>
     clear H'
     repeat (first | clear c1 | clear c2 | clear p2 | clear c6 | clear c12 | clear hcz10_0 | clear hcz10_1 | clear hcz7_0 | clear hcz7_1 | clear hcz9_0 | clear hcz9_1 | clear hfz10_0 | clear hfz10_1 | clear hfz7_0 | clear hfz7_1 | clear hfz9_0 | clear hfz9_1)
     obtain ⟨x5_2, rfl, HA, HK2, BK369, HB⟩ := hrel; cases gk with
     | zero => exact absurd HA.out (by simp [tollbarref4_CapsMay.l0])
     | succ k2 =>
      have H := HA.out; clear HA; simp only [tollbarref4_CapsMay.l0] at H
      by_cases c13 : x5_2 < (l1.length : Int)
      ·
       rw [if_pos c13] at H; have c13b0 : decide (x5_2 < (l1.length : Int)) = true := decide_eq_true c13; clear c13
       by_cases c14 : 0 ≤ x5_2
       ·
        rw [if_pos c14] at H; have c14b0 : decide (0 ≤ x5_2) = true := decide_eq_true c14; clear c14
        by_cases c15 : (rd l1 x5_2) < 0
        ·
         rw [if_pos c15] at H; have c15b0 : decide ((rd l1 x5_2) < 0) = true := decide_eq_true c15; clear c15; obtain rfl := Option.some.inj H; have p371 : 0 ≤ (x5_2 : Int) := od; have q371 : x5_2 < (l1.length : Int) := od; obtain ⟨ad371, e371, hx371_0⟩ := Kd.at_int HR1.out x5_2 p371 q371; cases e371; replace hx371_0 := (HB.out.cell (World.block_lt_of_cell? w _ hx371_0)).trans hx371_0; replace p371 := eq_true p371; replace q371 := eq_true q371
         go_wp2
         repeat (go_quiet (fail); try go_wp2)
         go_ret
         exact ⟨by first | rfl | (simp [errW_none, errW_some] <;> rfl) | (simp [*, errW_none, errW_some] <;> rfl), bq1 HB.out GE369.out⟩
        ·
         rw [if_neg c15] at H; have c15b0 : decide ((rd l1 x5_2) < 0) = false := decide_eq_false c15; clear c15
         by_cases c16 : x5_2 < (l0_1.length : Int)
         ·
          rw [if_pos c16] at H; have c16b0 : decide (x5_2 < (l0_1.length : Int)) = true := decide_eq_true c16; clear c16
          by_cases c17 : (rd l1 x5_2) > ((rd_T53 l0_1 x5_2).f2)
          ·
           rw [if_pos c17] at H; have c17b0 : decide (((rd_T53 l0_1 x5_2).f2) < (rd l1 x5_2)) = true := decide_eq_true c17; clear c17; obtain rfl := Option.some.inj H; have p371 : 0 ≤ (x5_2 : Int) := od; have q371 : x5_2 < (l1.length : Int) := od; obtain ⟨ad371, e371, hx371_0⟩ := Kd.at_int HR1.out x5_2 p371 q371; cases e371; replace hx371_0 := (HB.out.cell (World.block_lt_of_cell? w _ hx371_0)).trans hx371_0; replace p371 := eq_true p371; replace q371 := eq_true q371; have p372 : 0 ≤ (x5_2 : Int) := od; have q372 : x5_2 < (l1.length : Int) := od; obtain ⟨ad372, e372, hx372_0⟩ := Kd.at_int HR1.out x5_2 p372 q372
           obtain rfl : ad371 = ad372 := (by injection e372)
           replace hx372_0 := (HB.out.cell (World.block_lt_of_cell? w _ hx372_0)).trans hx372_0; replace p372 := eq_true p372; replace q372 := eq_true q372; have hcz18_0 := bkat BK369.out 0; have hcz18_1 := bkat BK369.out 1; have hfz18_0 := blk_frozen BK369.out 0; have hfz18_1 := blk_frozen BK369.out 1; have p373 : 0 ≤ (x5_2 : Int) := od; have q373 : x5_2 < (l0_1.length : Int) := od; obtain ⟨ad373, e373, hx373_0, hx373_1, hx373_2⟩ := at_T53 HR0_1.out x5_2 p373 q373; cases e373; replace hx373_0 := (HB.out.cell (World.block_lt_of_cell? w _ hx373_0)).trans hx373_0; replace hx373_1 := (HB.out.cell (World.block_lt_of_cell? w _ hx373_1)).trans hx373_1; replace hx373_2 := (HB.out.cell (World.block_lt_of_cell? w _ hx373_2)).trans hx373_2; replace p373 := eq_true p373; replace q373 := eq_true q373
           go_wp2
           repeat (go_quiet (fail); try go_wp2)
           go_ret
           exact ⟨by first | rfl | (simp [errW_none, errW_some] <;> rfl) | (simp [*, errW_none, errW_some] <;> rfl), bq1 HB.out GE369.out⟩
          ·
           rw [if_neg c17] at H; have c17b0 : decide (((rd_T53 l0_1 x5_2).f2) < (rd l1 x5_2)) = false := decide_eq_false c17; clear c17; have H' := ak H; clear H; have p371 : 0 ≤ (x5_2 : Int) := od; have q371 : x5_2 < (l1.length : Int) := od; obtain ⟨ad371, e371, hx371_0⟩ := Kd.at_int HR1.out x5_2 p371 q371; cases e371; replace hx371_0 := (HB.out.cell (World.block_lt_of_cell? w _ hx371_0)).trans hx371_0; replace p371 := eq_true p371; replace q371 := eq_true q371; have p372 : 0 ≤ (x5_2 : Int) := od; have q372 : x5_2 < (l1.length : Int) := od; obtain ⟨ad372, e372, hx372_0⟩ := Kd.at_int HR1.out x5_2 p372 q372
           obtain rfl : ad371 = ad372 := (by injection e372)
           replace hx372_0 := (HB.out.cell (World.block_lt_of_cell? w _ hx372_0)).trans hx372_0; replace p372 := eq_true p372; replace q372 := eq_true q372; have hcz19_0 := bkat BK369.out 0; have hcz19_1 := bkat BK369.out 1; have hfz19_0 := blk_frozen BK369.out 0; have hfz19_1 := blk_frozen BK369.out 1; have p373 : 0 ≤ (x5_2 : Int) := od; have q373 : x5_2 < (l0_1.length : Int) := od; obtain ⟨ad373, e373, hx373_0, hx373_1, hx373_2⟩ := at_T53 HR0_1.out x5_2 p373 q373; cases e373; replace hx373_0 := (HB.out.cell (World.block_lt_of_cell? w _ hx373_0)).trans hx373_0; replace hx373_1 := (HB.out.cell (World.block_lt_of_cell? w _ hx373_1)).trans hx373_1; replace hx373_2 := (HB.out.cell (World.block_lt_of_cell? w _ hx373_2)).trans hx373_2; replace p373 := eq_true p373; replace q373 := eq_true q373
           go_wp2
           repeat (go_quiet (fail); try go_wp2)
           go_roundg k2
           case measure => have := HJ2.out; have := HK2.out; omega
           case rel => exact ⟨(wrap64 (x5_2 + 1)), (by first | rfl | (simp; done) | (simp [*]; done)), H', ⟨by have := HJ2.out; have := HK2.out; omega⟩, ⟨by (with_reducible repeat (first | refine blk_drewN ?_ _ | refine blk_drew ?_ | refine blk_alloc ?_ _)); exact BK369.out⟩, ⟨bq1 HB.out GE369.out⟩⟩
         ·
          rw [if_neg c16] at H; exact absurd H (by simp)
       ·
        rw [if_neg c14] at H; exact absurd H (by simp)
      ·
       rw [if_neg c13] at H; have c13b0 : decide (x5_2 < (l1.length : Int)) = false := decide_eq_false c13; clear c13; obtain rfl := Option.some.inj H
       go_wp2
       repeat (go_quiet (fail); try go_wp2)
       go_ret
       exact ⟨by first | rfl | (simp [errW_none, errW_some] <;> rfl) | (simp [*, errW_none, errW_some] <;> rfl), bq1 HB.out GE369.out⟩
def tollbarref4_Within.l0 : Nat → List Int → List Int → Int → Option (Bool)
  | 0, _, _, _ => none
  | k + 1, x0, x1, x5 => if x5 < (x1.length : Int) then (if 0 ≤ x5 then (if (rd x1 x5) < 0 then (some false) else (if x5 < (x0.length : Int) then (if (rd x1 x5) > (rd x0 x5) then (some false) else (tollbarref4_Within.l0 k x0 x1 (wrap64 (x5 + 1)))) else (none))) else (none)) else (some true)
def tollbarref4_Within.f (k : Nat) (l0 : List Int) (l1 : List Int) : Option (Bool) := if (l1.length : Int) = (l0.length : Int) then (tollbarref4_Within.l0 k l0 l1 0) else (some false)
theorem tollbarref4_Within.calls (k : Nat) (A0 : Option Addr) (c0 : Nat) (l0 : List Int) (A1 : Option Addr) (c1 : Nat) (l1 : List Int) (r : Bool) (w : World) (hr0 : Kd.C (Kd.int .i64) w A0 l0.length l0) (hc0 : l0.length ≤ c0) (hr1 : Kd.C (Kd.int .i64) w A1 l1.length l1) (hc1 : l1.length ≤ c1) (h : tollbarref4_Within.f k l0 l1 = some r) :
    Calls Try.prog 45 #[.slice A0 l0.length c0, .slice A1 l1.length c1] w fun e w' => e = .returned (.bool r) ∧ Drawn0 w w' := by
  have HR0 := ak hr0; have HC0 := ak hc0; clear hr0 hc0; have HR1 := ak hr1; have HC1 := ak hc1; clear hr1 hc1; have H : (if (l1.length : Int) = (l0.length : Int) then (tollbarref4_Within.l0 k l0 l1 0) else (some false)) = some r := h; clear h
  by_cases c3 : (l1.length : Int) = (l0.length : Int)
  · rw [if_pos c3] at H
    have c3b0 : ((l1.length : Int) == (l0.length : Int)) = true := beq_iff_eq.mpr c3; have c3b1 : ((l1.length : Int) != (l0.length : Int)) = false := bne_eq_false_iff_eq.mpr c3
    have c3b2 : (l1.length == l0.length) = true := by first | simpa using c3 | (simp at c3 ⊢; omega)
    clear c3; have H' := ak H; clear H
    go_enter Try.func45, Try.ntmps45
    go_wp2
    repeat (go_quiet (fail); try go_wp2)
    go_loopg [5] k (fun kq v5 w' => ∃ (x5_1 : Int), v5 = .int .i64 x5_1 ∧ Aside0 (tollbarref4_Within.l0 kq l0 l1 x5_1 = some r) ∧ Aside0 (kq ≤ k) ∧ Drawn0 w w')
    case atStart => exact ⟨(0), (by first | rfl | (simp; done) | (simp [*]; done)), H', ⟨Nat.le_refl _⟩, by repeat (first | exact Drawn0.refl _ | apply Drawn0.step)⟩
    case round =>
      clear H'
      repeat (first | clear c1 | clear p2 | clear c3 | clear c3b0 | clear c3b1 | clear c3b2)
      obtain ⟨x5_1, rfl, HA, HK1, ⟨m1, rfl⟩⟩ := hrel; cases gk with
      | zero => exact absurd HA.out (by simp [tollbarref4_Within.l0])
      | succ k1 =>
        have H := HA.out; clear HA; simp only [tollbarref4_Within.l0] at H
        by_cases c4 : x5_1 < (l1.length : Int)
        · rw [if_pos c4] at H
          have c4b0 : decide (x5_1 < (l1.length : Int)) = true := decide_eq_true c4; clear c4
          by_cases c5 : 0 ≤ x5_1
          · rw [if_pos c5] at H
            have c5b0 : decide (0 ≤ x5_1) = true := decide_eq_true c5; clear c5
            by_cases c6 : (rd l1 x5_1) < 0
            · rw [if_pos c6] at H
              have c6b0 : decide ((rd l1 x5_1) < 0) = true := decide_eq_true c6; clear c6; obtain rfl := Option.some.inj H; have p374 : 0 ≤ (x5_1 : Int) := od; have q374 : x5_1 < (l1.length : Int) := od; obtain ⟨ad374, e374, hx374_0⟩ := Kd.at_int HR1.out x5_1 p374 q374; cases e374; replace p374 := eq_true p374; replace q374 := eq_true q374
              go_wp2
              repeat (go_quiet (fail); try go_wp2)
              go_ret
              exact ⟨by first | rfl | (simp; done) | (simp [*]; done), by repeat (first | exact Drawn0.refl _ | apply Drawn0.step)⟩
            · rw [if_neg c6] at H
              have c6b0 : decide ((rd l1 x5_1) < 0) = false := decide_eq_false c6; clear c6
              by_cases c7 : x5_1 < (l0.length : Int)
              · rw [if_pos c7] at H
                have c7b0 : decide (x5_1 < (l0.length : Int)) = true := decide_eq_true c7; clear c7
                by_cases c8 : (rd l1 x5_1) > (rd l0 x5_1)
                · rw [if_pos c8] at H
                  have c8b0 : decide ((rd l0 x5_1) < (rd l1 x5_1)) = true := decide_eq_true c8; clear c8; obtain rfl := Option.some.inj H; have p374 : 0 ≤ (x5_1 : Int) := od; have q374 : x5_1 < (l1.length : Int) := od; obtain ⟨ad374, e374, hx374_0⟩ := Kd.at_int HR1.out x5_1 p374 q374; cases e374; replace p374 := eq_true p374; replace q374 := eq_true q374; have p375 : 0 ≤ (x5_1 : Int) := od; have q375 : x5_1 < (l1.length : Int) := od; obtain ⟨ad375, e375, hx375_0⟩ := Kd.at_int HR1.out x5_1 p375 q375
                  obtain rfl : ad374 = ad375 := (by injection e375)
                  replace p375 := eq_true p375; replace q375 := eq_true q375; have p376 : 0 ≤ (x5_1 : Int) := od; have q376 : x5_1 < (l0.length : Int) := od; obtain ⟨ad376, e376, hx376_0⟩ := Kd.at_int HR0.out x5_1 p376 q376; cases e376; replace p376 := eq_true p376; replace q376 := eq_true q376
                  go_wp2
                  repeat (go_quiet (fail); try go_wp2)
                  go_ret
                  exact ⟨by first | rfl | (simp; done) | (simp [*]; done), by repeat (first | exact Drawn0.refl _ | apply Drawn0.step)⟩
                · rw [if_neg c8] at H
                  have c8b0 : decide ((rd l0 x5_1) < (rd l1 x5_1)) = false := decide_eq_false c8; clear c8; have H' := ak H; clear H; have p374 : 0 ≤ (x5_1 : Int) := od; have q374 : x5_1 < (l1.length : Int) := od; obtain ⟨ad374, e374, hx374_0⟩ := Kd.at_int HR1.out x5_1 p374 q374; cases e374; replace p374 := eq_true p374; replace q374 := eq_true q374; have p375 : 0 ≤ (x5_1 : Int) := od; have q375 : x5_1 < (l1.length : Int) := od; obtain ⟨ad375, e375, hx375_0⟩ := Kd.at_int HR1.out x5_1 p375 q375
                  obtain rfl : ad374 = ad375 := (by injection e375)
                  replace p375 := eq_true p375; replace q375 := eq_true q375; have p376 : 0 ≤ (x5_1 : Int) := od; have q376 : x5_1 < (l0.length : Int) := od; obtain ⟨ad376, e376, hx376_0⟩ := Kd.at_int HR0.out x5_1 p376 q376; cases e376; replace p376 := eq_true p376; replace q376 := eq_true q376
                  go_wp2
                  repeat (go_quiet (fail); try go_wp2)
                  go_roundg k1
                  case measure => have := HK1.out; omega
                  case rel => exact ⟨(wrap64 (x5_1 + 1)), (by first | rfl | (simp; done) | (simp [*]; done)), H', ⟨by have := HK1.out; omega⟩, by repeat (first | exact Drawn0.refl _ | apply Drawn0.step)⟩
              · rw [if_neg c7] at H
                exact absurd H (by simp)
          · rw [if_neg c5] at H
            exact absurd H (by simp)
        · rw [if_neg c4] at H
          have c4b0 : decide (x5_1 < (l1.length : Int)) = false := decide_eq_false c4; clear c4; obtain rfl := Option.some.inj H
          go_wp2
          repeat (go_quiet (fail); try go_wp2)
          go_ret
          exact ⟨by first | rfl | (simp; done) | (simp [*]; done), by repeat (first | exact Drawn0.refl _ | apply Drawn0.step)⟩
  · rw [if_neg c3] at H
    have c3b0 : ((l1.length : Int) == (l0.length : Int)) = false := beq_eq_false_iff_ne.mpr c3; have c3b1 : ((l1.length : Int) != (l0.length : Int)) = true := bne_iff_ne.mpr c3
    have c3b2 : (l1.length == l0.length) = false := by first | simpa using c3 | (simp at c3 ⊢; omega)
    obtain rfl := Option.some.inj H
    go_enter Try.func45, Try.ntmps45
    go_wp2
    repeat (go_quiet (fail); try go_wp2)
    go_ret
    exact ⟨by first | rfl | (simp; done) | (simp [*]; done), by repeat (first | exact Drawn0.refl _ | apply Drawn0.step)⟩
mutual
def tollbarref4_FlowMay.j0 : Nat → List Int → Int → Int → Bool → Int → List (S53) → Option (Bool)
 | 0, _, _, _, _, _, _ => none
 | k + 1, x2, x3, x4, x45, xka, xkb => if x45 = true then (some false) else (tollbarref4_FlowMay.l0 k x2 x3 x4 0 xka xkb)
def tollbarref4_FlowMay.l0 : Nat → List Int → Int → Int → Int → Int → List (S53) → Option (Bool)
 | 0, _, _, _, _, _, _ => none
 | k + 1, x2, x3, x4, x11, xka, xkb => if x11 < xka then (if x11 = x3 then (tollbarref4_FlowMay.l0 k x2 x3 x4 (wrap64 (x11 + 1)) xka xkb) else (if x11 = x4 then (tollbarref4_FlowMay.l0 k x2 x3 x4 (wrap64 (x11 + 1)) xka xkb) else ((tollbarref4_Gain.f k xka xkb x2 x11).bind fun t383 => (if t383 = 0 then (tollbarref4_FlowMay.l0 k x2 x3 x4 (wrap64 (x11 + 1)) xka xkb) else (some false))))) else (some true)
end
def tollbarref4_FlowMay.f (k : Nat) (a0_0 : Int) (l0_1 : List (S53)) (l1 : List Int) (l2 : List Int) (a3 : Int) (a4 : Int) : Option (Bool) := (tollbarref4_CapsMay.f k a0_0 l0_1 l1).bind fun t378 => (if t378 = true then ((tollbarref4_Within.f k l1 l2).bind fun t379 => (if t379 = true then ((tollbarref4_Vertex.f a0_0 l0_1 a3).bind fun t380 => (if t380 = true then ((tollbarref4_Vertex.f a0_0 l0_1 a4).bind fun t381 => (if t381 = true then (if a3 = a4 then (tollbarref4_FlowMay.j0 k l2 a3 a4 true a0_0 l0_1) else ((tollbarref4_Gain.f k a0_0 l0_1 l2 a3).bind fun t382 => (tollbarref4_FlowMay.j0 k l2 a3 a4 (decide (t382 < 0)) a0_0 l0_1))) else (tollbarref4_FlowMay.j0 k l2 a3 a4 true a0_0 l0_1))) else (tollbarref4_FlowMay.j0 k l2 a3 a4 true a0_0 l0_1))) else (tollbarref4_FlowMay.j0 k l2 a3 a4 true a0_0 l0_1))) else (tollbarref4_FlowMay.j0 k l2 a3 a4 true a0_0 l0_1))
theorem tollbarref4_FlowMay.calls (k : Nat) (a0_0 : Int) (A0_1 : Option Addr) (c0_1 : Nat) (l0_1 : List (S53)) (A1 : Option Addr) (c1 : Nat) (l1 : List Int) (A2 : Option Addr) (c2 : Nat) (l2 : List Int) (a3 : Int) (a4 : Int) (r : Bool) (w : World) (hr0_1 : Kd.C k53 w A0_1 l0_1.length l0_1) (hc0_1 : l0_1.length ≤ c0_1) (hr1 : Kd.C (Kd.int .i64) w A1 l1.length l1) (hc1 : l1.length ≤ c1) (hr2 : Kd.C (Kd.int .i64) w A2 l2.length l2) (hc2 : l2.length ≤ c2) (h : tollbarref4_FlowMay.f k a0_0 l0_1 l1 l2 a3 a4 = some r) :
  Calls Try.prog 16 #[.agg #[.int .i64 a0_0, .slice A0_1 l0_1.length c0_1], .slice A1 l1.length c1, .slice A2 l2.length c2, .int .i64 a3, .int .i64 a4] w fun e w' => e = .returned (.bool r) ∧ Below w.heap.size w w' := by
 have hu24 := Try.underlying24; have HR0_1 := ak hr0_1; have HC0_1 := ak hc0_1; clear hr0_1 hc0_1; have HR1 := ak hr1; have HC1 := ak hc1; clear hr1 hc1; have HR2 := ak hr2; have HC2 := ak hc2; clear hr2 hc2; have HB := ak (Below.refl w.heap.size w); have H : ((tollbarref4_CapsMay.f k a0_0 l0_1 l1).bind fun t378 => (if t378 = true then ((tollbarref4_Within.f k l1 l2).bind fun t379 => (if t379 = true then ((tollbarref4_Vertex.f a0_0 l0_1 a3).bind fun t380 => (if t380 = true then ((tollbarref4_Vertex.f a0_0 l0_1 a4).bind fun t381 => (if t381 = true then (if a3 = a4 then (tollbarref4_FlowMay.j0 k l2 a3 a4 true a0_0 l0_1) else ((tollbarref4_Gain.f k a0_0 l0_1 l2 a3).bind fun t382 => (tollbarref4_FlowMay.j0 k l2 a3 a4 (decide (t382 < 0)) a0_0 l0_1))) else (tollbarref4_FlowMay.j0 k l2 a3 a4 true a0_0 l0_1))) else (tollbarref4_FlowMay.j0 k l2 a3 a4 true a0_0 l0_1))) else (tollbarref4_FlowMay.j0 k l2 a3 a4 true a0_0 l0_1))) else (tollbarref4_FlowMay.j0 k l2 a3 a4 true a0_0 l0_1))) = some r := h; clear h; have HC6 := ak H; clear H
 go_enter Try.func16, Try.ntmps16
 go_upto_region 1 with (first | ((with_reducible refine gate_dst (N := 5) rfl ?_); refine box_event ?hg (N := 5) ?hd (cs := #[.int .i64 a0_0, .slice A0_1 l0_1.length c0_1]) (t := 24) ?hr ?_; (case hd => rfl); (case hg => rfl); (case hr => first | (go_simp; done) | (go_simp; rfl)); intro gb377 hg w7 hbox hb; have BK377 := ak (hbox); have GW377 := ak ((by rw [hg]; exact (below_size HB.out) : w.heap.size ≤ gb377)); have GE377 := ak ((by rw [hg]; exact (below_size HB.out) : w.heap.size ≤ gb377)); replace HB := ak (below_step HB.out hb); clear hb hbox hg))
 (try simp only [Act.put, List.setIfInBounds_toArray, List.set_cons_zero, List.set_cons_succ])
 go_cut [45] (fun v45 wc => ∃ (kq : Nat) (x45_5 : Bool), v45 = .bool x45_5 ∧ Aside0 (tollbarref4_FlowMay.j0 kq l2 a3 a4 x45_5 a0_0 l0_1 = some r) ∧ Aside0 (kq ≤ k) ∧ Aside0 (wc.heap[gb377]? = some (.cells #[.int .i64 a0_0, (.slice A0_1 l0_1.length c0_1)] 24 (0, 0))) ∧ Aside0 (Below w.heap.size w wc))
 case first =>
  have H := HC6.out; clear HC6; replace H := Option.bind_eq_some_iff.mp H; obtain ⟨t378, A80, H⟩ := H; replace H : (if t378 = true then ((tollbarref4_Within.f k l1 l2).bind fun t379 => (if t379 = true then ((tollbarref4_Vertex.f a0_0 l0_1 a3).bind fun t380 => (if t380 = true then ((tollbarref4_Vertex.f a0_0 l0_1 a4).bind fun t381 => (if t381 = true then (if a3 = a4 then (tollbarref4_FlowMay.j0 k l2 a3 a4 true a0_0 l0_1) else ((tollbarref4_Gain.f k a0_0 l0_1 l2 a3).bind fun t382 => (tollbarref4_FlowMay.j0 k l2 a3 a4 (decide (t382 < 0)) a0_0 l0_1))) else (tollbarref4_FlowMay.j0 k l2 a3 a4 true a0_0 l0_1))) else (tollbarref4_FlowMay.j0 k l2 a3 a4 true a0_0 l0_1))) else (tollbarref4_FlowMay.j0 k l2 a3 a4 true a0_0 l0_1))) else (tollbarref4_FlowMay.j0 k l2 a3 a4 true a0_0 l0_1)) = some r := H; have A8 := ak A80; clear A80
  by_cases c9 : t378 = true
  ·
   subst c9
   have H1 : ((tollbarref4_Within.f k l1 l2).bind fun t379 => (if t379 = true then ((tollbarref4_Vertex.f a0_0 l0_1 a3).bind fun t380 => (if t380 = true then ((tollbarref4_Vertex.f a0_0 l0_1 a4).bind fun t381 => (if t381 = true then (if a3 = a4 then (tollbarref4_FlowMay.j0 k l2 a3 a4 true a0_0 l0_1) else ((tollbarref4_Gain.f k a0_0 l0_1 l2 a3).bind fun t382 => (tollbarref4_FlowMay.j0 k l2 a3 a4 (decide (t382 < 0)) a0_0 l0_1))) else (tollbarref4_FlowMay.j0 k l2 a3 a4 true a0_0 l0_1))) else (tollbarref4_FlowMay.j0 k l2 a3 a4 true a0_0 l0_1))) else (tollbarref4_FlowMay.j0 k l2 a3 a4 true a0_0 l0_1))) = some r := by rw [if_pos rfl] at H; exact H
   clear H; have H := H1; clear H1; replace H := Option.bind_eq_some_iff.mp H; obtain ⟨t379, A100, H⟩ := H; replace H : (if t379 = true then ((tollbarref4_Vertex.f a0_0 l0_1 a3).bind fun t380 => (if t380 = true then ((tollbarref4_Vertex.f a0_0 l0_1 a4).bind fun t381 => (if t381 = true then (if a3 = a4 then (tollbarref4_FlowMay.j0 k l2 a3 a4 true a0_0 l0_1) else ((tollbarref4_Gain.f k a0_0 l0_1 l2 a3).bind fun t382 => (tollbarref4_FlowMay.j0 k l2 a3 a4 (decide (t382 < 0)) a0_0 l0_1))) else (tollbarref4_FlowMay.j0 k l2 a3 a4 true a0_0 l0_1))) else (tollbarref4_FlowMay.j0 k l2 a3 a4 true a0_0 l0_1))) else (tollbarref4_FlowMay.j0 k l2 a3 a4 true a0_0 l0_1)) = some r := H; have A10 := ak A100; clear A100
   by_cases c11 : t379 = true
   ·
    subst c11
    have H1 : ((tollbarref4_Vertex.f a0_0 l0_1 a3).bind fun t380 => (if t380 = true then ((tollbarref4_Vertex.f a0_0 l0_1 a4).bind fun t381 => (if t381 = true then (if a3 = a4 then (tollbarref4_FlowMay.j0 k l2 a3 a4 true a0_0 l0_1) else ((tollbarref4_Gain.f k a0_0 l0_1 l2 a3).bind fun t382 => (tollbarref4_FlowMay.j0 k l2 a3 a4 (decide (t382 < 0)) a0_0 l0_1))) else (tollbarref4_FlowMay.j0 k l2 a3 a4 true a0_0 l0_1))) else (tollbarref4_FlowMay.j0 k l2 a3 a4 true a0_0 l0_1))) = some r := by rw [if_pos rfl] at H; exact H
    clear H; have H := H1; clear H1; replace H := Option.bind_eq_some_iff.mp H; obtain ⟨t380, A120, H⟩ := H; replace H : (if t380 = true then ((tollbarref4_Vertex.f a0_0 l0_1 a4).bind fun t381 => (if t381 = true then (if a3 = a4 then (tollbarref4_FlowMay.j0 k l2 a3 a4 true a0_0 l0_1) else ((tollbarref4_Gain.f k a0_0 l0_1 l2 a3).bind fun t382 => (tollbarref4_FlowMay.j0 k l2 a3 a4 (decide (t382 < 0)) a0_0 l0_1))) else (tollbarref4_FlowMay.j0 k l2 a3 a4 true a0_0 l0_1))) else (tollbarref4_FlowMay.j0 k l2 a3 a4 true a0_0 l0_1)) = some r := H; have A12 := ak A120; clear A120
    by_cases c13 : t380 = true
    ·
     subst c13
     have H1 : ((tollbarref4_Vertex.f a0_0 l0_1 a4).bind fun t381 => (if t381 = true then (if a3 = a4 then (tollbarref4_FlowMay.j0 k l2 a3 a4 true a0_0 l0_1) else ((tollbarref4_Gain.f k a0_0 l0_1 l2 a3).bind fun t382 => (tollbarref4_FlowMay.j0 k l2 a3 a4 (decide (t382 < 0)) a0_0 l0_1))) else (tollbarref4_FlowMay.j0 k l2 a3 a4 true a0_0 l0_1))) = some r := by rw [if_pos rfl] at H; exact H
     clear H; have H := H1; clear H1; replace H := Option.bind_eq_some_iff.mp H; obtain ⟨t381, A140, H⟩ := H; replace H : (if t381 = true then (if a3 = a4 then (tollbarref4_FlowMay.j0 k l2 a3 a4 true a0_0 l0_1) else ((tollbarref4_Gain.f k a0_0 l0_1 l2 a3).bind fun t382 => (tollbarref4_FlowMay.j0 k l2 a3 a4 (decide (t382 < 0)) a0_0 l0_1))) else (tollbarref4_FlowMay.j0 k l2 a3 a4 true a0_0 l0_1)) = some r := H; have A14 := ak A140; clear A140
     by_cases c15 : t381 = true
     ·
      subst c15
      have H1 : (if a3 = a4 then (tollbarref4_FlowMay.j0 k l2 a3 a4 true a0_0 l0_1) else ((tollbarref4_Gain.f k a0_0 l0_1 l2 a3).bind fun t382 => (tollbarref4_FlowMay.j0 k l2 a3 a4 (decide (t382 < 0)) a0_0 l0_1))) = some r := by rw [if_pos rfl] at H; exact H
      clear H; have H := H1; clear H1
      by_cases c16 : a3 = a4
      ·
       rw [if_pos c16] at H; have c16b0 : (a3 == a4) = true := beq_iff_eq.mpr c16; have c16b1 : (a3 != a4) = false := bne_eq_false_iff_eq.mpr c16; clear c16; (first | rw [c16b0] | (simp only [i64_w, i32_w]; rw [c16b0]) | skip); have H' := ak H; clear H; have hcz17_0 := bkat BK377.out 0; have hcz17_1 := bkat BK377.out 1; have hfz17_0 := blk_frozen BK377.out 0; have hfz17_1 := blk_frozen BK377.out 1
       go_wp2_with (first | ((with_reducible refine gate_callee (f := 26) rfl ?_); refine gl 14 Try.func26 #[.agg #[.int .i64 a0_0, .slice A0_1 l0_1.length c0_1], .slice A1 l1.length c1] ?_; (with_reducible refine (tollbarref4_CapsMay.calls k a0_0 _ _ l0_1 _ _ l1 true _ ?side1 ?side2 ?side3 ?side4 A8.out).mono ?_); (case side1 => exact (Kd.C_below HR0_1.out HB.out)); (case side2 => exact HC0_1.out); (case side3 => exact (Kd.C_below HR1.out HB.out)); (case side4 => exact HC1.out); rintro e w18 ⟨rfl, hb⟩; refine ⟨_, rfl, ?_⟩; replace BK377 := ak (blk_below BK377.out hb); replace HB := ak (below_step HB.out hb); (try clear hb); (try clear hb2); (try clear hk); (try clear hi)) | (go_at_call 45; (with_reducible refine (tollbarref4_Within.calls k _ _ l1 _ _ l2 true _ ?side1 ?side2 ?side3 ?side4 A10.out).mono ?_); (case side1 => exact (Kd.C_below HR1.out HB.out)); (case side2 => exact HC1.out); (case side3 => exact (Kd.C_below HR2.out HB.out)); (case side4 => exact HC2.out); rintro e w' ⟨rfl, ⟨nd, rfl⟩⟩; have hcz19_0 := bkat BK377.out 0; have hcz19_1 := bkat BK377.out 1; have hfz19_0 := blk_frozen BK377.out 0; have hfz19_1 := blk_frozen BK377.out 1) | (go_at_call 46; (with_reducible refine (tollbarref4_Vertex.calls a0_0 _ _ l0_1 a3 true _ ?side1 ?side2 A12.out).mono ?_); (case side1 => repeat (first | exact (Kd.C_below HR0_1.out (bq1 HB.out GE377.out)) | (with_reducible refine Kd.C_alloc ?_ _) | (with_reducible refine Kd.C_drewN ?_ _) | (with_reducible refine Kd.C_drew ?_))); (case side2 => exact HC0_1.out); rintro e w20 ⟨rfl, hb⟩; have n0_ := ak (blk_below (bk BK377.out) hb); have n1_ := ak (below_step (bq1 HB.out GE377.out) hb); clear BK377; clear HB; have BK377 := n0_; have HB := n1_; clear n0_ n1_; (try clear hb); (try clear hb2); (try clear hk); (try clear hi); have hcz21_0 := bkat BK377.out 0; have hcz21_1 := bkat BK377.out 1; have hfz21_0 := blk_frozen BK377.out 0; have hfz21_1 := blk_frozen BK377.out 1) | (go_at_call 46; (with_reducible refine (tollbarref4_Vertex.calls a0_0 _ _ l0_1 a4 true _ ?side1 ?side2 A14.out).mono ?_); (case side1 => exact bc (Kd.C_below HR0_1.out HB.out)); (case side2 => exact HC0_1.out); rintro e w22 ⟨rfl, hb⟩; have n0_ := ak (blk_below (bk BK377.out) hb); have n1_ := ak (below_step (bq1 HB.out GE377.out) hb); clear BK377; clear HB; have BK377 := n0_; have HB := n1_; clear n0_ n1_; (try clear hb); (try clear hb2); (try clear hk); (try clear hi)))
       go_meet
       case rel => exact ⟨_, (true), (by first | rfl | (simp; done) | (simp [*]; done)), H', ⟨by first | omega | exact Nat.le_refl _⟩, ⟨BK377.out⟩, ⟨HB.out⟩⟩
      ·
       rw [if_neg c16] at H; have c16b0 : (a3 == a4) = false := beq_eq_false_iff_ne.mpr c16; have c16b1 : (a3 != a4) = true := bne_iff_ne.mpr c16; (first | rw [c16b0] | (simp only [i64_w, i32_w]; rw [c16b0]) | skip); replace H := Option.bind_eq_some_iff.mp H; obtain ⟨t382, A230, H⟩ := H; replace H : (tollbarref4_FlowMay.j0 k l2 a3 a4 (decide (t382 < 0)) a0_0 l0_1) = some r := H; have A23 := ak A230; clear A230; have H' := ak H; clear H; have hcz24_0 := bkat BK377.out 0; have hcz24_1 := bkat BK377.out 1; have hfz24_0 := blk_frozen BK377.out 0; have hfz24_1 := blk_frozen BK377.out 1
       go_wp2_with (first | ((with_reducible refine gate_callee (f := 26) rfl ?_); refine gl 14 Try.func26 #[.agg #[.int .i64 a0_0, .slice A0_1 l0_1.length c0_1], .slice A1 l1.length c1] ?_; (with_reducible refine (tollbarref4_CapsMay.calls k a0_0 _ _ l0_1 _ _ l1 true _ ?side1 ?side2 ?side3 ?side4 A8.out).mono ?_); (case side1 => exact (Kd.C_below HR0_1.out HB.out)); (case side2 => exact HC0_1.out); (case side3 => exact (Kd.C_below HR1.out HB.out)); (case side4 => exact HC1.out); rintro e w25 ⟨rfl, hb⟩; refine ⟨_, rfl, ?_⟩; replace BK377 := ak (blk_below BK377.out hb); replace HB := ak (below_step HB.out hb); (try clear hb); (try clear hb2); (try clear hk); (try clear hi)) | (go_at_call 45; (with_reducible refine (tollbarref4_Within.calls k _ _ l1 _ _ l2 true _ ?side1 ?side2 ?side3 ?side4 A10.out).mono ?_); (case side1 => exact (Kd.C_below HR1.out HB.out)); (case side2 => exact HC1.out); (case side3 => exact (Kd.C_below HR2.out HB.out)); (case side4 => exact HC2.out); rintro e w' ⟨rfl, ⟨nd, rfl⟩⟩; have hcz26_0 := bkat BK377.out 0; have hcz26_1 := bkat BK377.out 1; have hfz26_0 := blk_frozen BK377.out 0; have hfz26_1 := blk_frozen BK377.out 1) | (go_at_call 46; (with_reducible refine (tollbarref4_Vertex.calls a0_0 _ _ l0_1 a3 true _ ?side1 ?side2 A12.out).mono ?_); (case side1 => repeat (first | exact (Kd.C_below HR0_1.out (bq1 HB.out GE377.out)) | (with_reducible refine Kd.C_alloc ?_ _) | (with_reducible refine Kd.C_drewN ?_ _) | (with_reducible refine Kd.C_drew ?_))); (case side2 => exact HC0_1.out); rintro e w27 ⟨rfl, hb⟩; have n0_ := ak (blk_below (bk BK377.out) hb); have n1_ := ak (below_step (bq1 HB.out GE377.out) hb); clear BK377; clear HB; have BK377 := n0_; have HB := n1_; clear n0_ n1_; (try clear hb); (try clear hb2); (try clear hk); (try clear hi); have hcz28_0 := bkat BK377.out 0; have hcz28_1 := bkat BK377.out 1; have hfz28_0 := blk_frozen BK377.out 0; have hfz28_1 := blk_frozen BK377.out 1) | (go_at_call 46; (with_reducible refine (tollbarref4_Vertex.calls a0_0 _ _ l0_1 a4 true _ ?side1 ?side2 A14.out).mono ?_); (case side1 => exact bc (Kd.C_below HR0_1.out HB.out)); (case side2 => exact HC0_1.out); rintro e w29 ⟨rfl, hb⟩; have n0_ := ak (blk_below (bk BK377.out) hb); have n1_ := ak (below_step (bq1 HB.out GE377.out) hb); clear BK377; clear HB; have BK377 := n0_; have HB := n1_; clear n0_ n1_; (try clear hb); (try clear hb2); (try clear hk); (try clear hi); have hcz30_0 := bkat BK377.out 0; have hcz30_1 := bkat BK377.out 1; have hfz30_0 := blk_frozen BK377.out 0; have hfz30_1 := blk_frozen BK377.out 1) | (go_at_call 19; (with_reducible refine (tollbarref4_Gain.calls k a0_0 _ _ l0_1 _ _ l2 a3 t382 _ ?side1 ?side2 ?side3 ?side4 A23.out).mono ?_); (case side1 => exact bc (Kd.C_below HR0_1.out HB.out)); (case side2 => exact HC0_1.out); (case side3 => exact bc (Kd.C_below HR2.out HB.out)); (case side4 => exact HC2.out); rintro e w31 ⟨rfl, hb⟩; have n0_ := ak (blk_below (bk BK377.out) hb); have n1_ := ak (below_step (bq1 HB.out GE377.out) hb); clear BK377; clear HB; have BK377 := n0_; have HB := n1_; clear n0_ n1_; (try clear hb); (try clear hb2); (try clear hk); (try clear hi)))
       go_meet
       case rel => exact ⟨_, (decide (t382 < 0)), (by first | rfl | (simp; done) | (simp [*]; done)), H', ⟨by first | omega | exact Nat.le_refl _⟩, ⟨BK377.out⟩, ⟨HB.out⟩⟩
     ·
      replace c15 := Bool.eq_false_iff.mpr c15; subst c15
      have H1 : (tollbarref4_FlowMay.j0 k l2 a3 a4 true a0_0 l0_1) = some r := by rw [if_neg (show ¬ (false = true) by decide)] at H; exact H
      clear H; have H := H1; clear H1; have H' := ak H; clear H; have hcz32_0 := bkat BK377.out 0; have hcz32_1 := bkat BK377.out 1; have hfz32_0 := blk_frozen BK377.out 0; have hfz32_1 := blk_frozen BK377.out 1
      go_wp2_with (first | ((with_reducible refine gate_callee (f := 26) rfl ?_); refine gl 14 Try.func26 #[.agg #[.int .i64 a0_0, .slice A0_1 l0_1.length c0_1], .slice A1 l1.length c1] ?_; (with_reducible refine (tollbarref4_CapsMay.calls k a0_0 _ _ l0_1 _ _ l1 true _ ?side1 ?side2 ?side3 ?side4 A8.out).mono ?_); (case side1 => exact bc (Kd.C_below HR0_1.out HB.out)); (case side2 => exact HC0_1.out); (case side3 => exact bc (Kd.C_below HR1.out HB.out)); (case side4 => exact HC1.out); rintro e w33 ⟨rfl, hb⟩; refine ⟨_, rfl, ?_⟩; replace BK377 := ak (blk_below (bk BK377.out) hb); replace HB := ak (below_step (bq1 HB.out GE377.out) hb); (try clear hb); (try clear hb2); (try clear hk); (try clear hi)) | (go_at_call 45; (with_reducible refine (tollbarref4_Within.calls k _ _ l1 _ _ l2 true _ ?side1 ?side2 ?side3 ?side4 A10.out).mono ?_); (case side1 => exact bc (Kd.C_below HR1.out HB.out)); (case side2 => exact HC1.out); (case side3 => exact bc (Kd.C_below HR2.out HB.out)); (case side4 => exact HC2.out); rintro e w' ⟨rfl, ⟨nd, rfl⟩⟩; have hcz34_0 := bkat BK377.out 0; have hcz34_1 := bkat BK377.out 1; have hfz34_0 := blk_frozen BK377.out 0; have hfz34_1 := blk_frozen BK377.out 1) | (go_at_call 46; (with_reducible refine (tollbarref4_Vertex.calls a0_0 _ _ l0_1 a3 true _ ?side1 ?side2 A12.out).mono ?_); (case side1 => repeat (first | exact (Kd.C_below HR0_1.out (bq1 HB.out GE377.out)) | (with_reducible refine Kd.C_alloc ?_ _) | (with_reducible refine Kd.C_drewN ?_ _) | (with_reducible refine Kd.C_drew ?_))); (case side2 => exact HC0_1.out); rintro e w35 ⟨rfl, hb⟩; have n0_ := ak (blk_below (bk BK377.out) hb); have n1_ := ak (below_step (bq1 HB.out GE377.out) hb); clear BK377; clear HB; have BK377 := n0_; have HB := n1_; clear n0_ n1_; (try clear hb); (try clear hb2); (try clear hk); (try clear hi); have hcz36_0 := bkat BK377.out 0; have hcz36_1 := bkat BK377.out 1; have hfz36_0 := blk_frozen BK377.out 0; have hfz36_1 := blk_frozen BK377.out 1) | (go_at_call 46; (with_reducible refine (tollbarref4_Vertex.calls a0_0 _ _ l0_1 a4 false _ ?side1 ?side2 A14.out).mono ?_); (case side1 => exact bc (Kd.C_below HR0_1.out HB.out)); (case side2 => exact HC0_1.out); rintro e w37 ⟨rfl, hb⟩; have n0_ := ak (blk_below (bk BK377.out) hb); have n1_ := ak (below_step (bq1 HB.out GE377.out) hb); clear BK377; clear HB; have BK377 := n0_; have HB := n1_; clear n0_ n1_; (try clear hb); (try clear hb2); (try clear hk); (try clear hi)))
      go_meet
      case rel => exact ⟨_, (true), (by first | rfl | (simp; done) | (simp [*]; done)), H', ⟨by first | omega | exact Nat.le_refl _⟩, ⟨BK377.out⟩, ⟨HB.out⟩⟩
    ·
     replace c13 := Bool.eq_false_iff.mpr c13; subst c13
     have H1 : (tollbarref4_FlowMay.j0 k l2 a3 a4 true a0_0 l0_1) = some r := by rw [if_neg (show ¬ (false = true) by decide)] at H; exact H
     clear H; have H := H1; clear H1; have H' := ak H; clear H; have hcz38_0 := bkat BK377.out 0; have hcz38_1 := bkat BK377.out 1; have hfz38_0 := blk_frozen BK377.out 0; have hfz38_1 := blk_frozen BK377.out 1
     go_wp2_with (first | ((with_reducible refine gate_callee (f := 26) rfl ?_); refine gl 14 Try.func26 #[.agg #[.int .i64 a0_0, .slice A0_1 l0_1.length c0_1], .slice A1 l1.length c1] ?_; (with_reducible refine (tollbarref4_CapsMay.calls k a0_0 _ _ l0_1 _ _ l1 true _ ?side1 ?side2 ?side3 ?side4 A8.out).mono ?_); (case side1 => exact bc (Kd.C_below HR0_1.out HB.out)); (case side2 => exact HC0_1.out); (case side3 => exact bc (Kd.C_below HR1.out HB.out)); (case side4 => exact HC1.out); rintro e w39 ⟨rfl, hb⟩; refine ⟨_, rfl, ?_⟩; replace BK377 := ak (blk_below (bk BK377.out) hb); replace HB := ak (below_step (bq1 HB.out GE377.out) hb); (try clear hb); (try clear hb2); (try clear hk); (try clear hi)) | (go_at_call 45; (with_reducible refine (tollbarref4_Within.calls k _ _ l1 _ _ l2 true _ ?side1 ?side2 ?side3 ?side4 A10.out).mono ?_); (case side1 => exact bc (Kd.C_below HR1.out HB.out)); (case side2 => exact HC1.out); (case side3 => exact bc (Kd.C_below HR2.out HB.out)); (case side4 => exact HC2.out); rintro e w' ⟨rfl, ⟨nd, rfl⟩⟩; have hcz40_0 := bkat BK377.out 0; have hcz40_1 := bkat BK377.out 1; have hfz40_0 := blk_frozen BK377.out 0; have hfz40_1 := blk_frozen BK377.out 1) | (go_at_call 46; (with_reducible refine (tollbarref4_Vertex.calls a0_0 _ _ l0_1 a3 false _ ?side1 ?side2 A12.out).mono ?_); (case side1 => repeat (first | exact (Kd.C_below HR0_1.out (bq1 HB.out GE377.out)) | (with_reducible refine Kd.C_alloc ?_ _) | (with_reducible refine Kd.C_drewN ?_ _) | (with_reducible refine Kd.C_drew ?_))); (case side2 => exact HC0_1.out); rintro e w41 ⟨rfl, hb⟩; have n0_ := ak (blk_below (bk BK377.out) hb); have n1_ := ak (below_step (bq1 HB.out GE377.out) hb); clear BK377; clear HB; have BK377 := n0_; have HB := n1_; clear n0_ n1_; (try clear hb); (try clear hb2); (try clear hk); (try clear hi)))
     go_meet
     case rel => exact ⟨_, (true), (by first | rfl | (simp; done) | (simp [*]; done)), H', ⟨by first | omega | exact Nat.le_refl _⟩, ⟨BK377.out⟩, ⟨HB.out⟩⟩
   ·
    replace c11 := Bool.eq_false_iff.mpr c11; subst c11
    have H1 : (tollbarref4_FlowMay.j0 k l2 a3 a4 true a0_0 l0_1) = some r := by rw [if_neg (show ¬ (false = true) by decide)] at H; exact H
    clear H; have H := H1; clear H1; have H' := ak H; clear H; have hcz42_0 := bkat BK377.out 0; have hcz42_1 := bkat BK377.out 1; have hfz42_0 := blk_frozen BK377.out 0; have hfz42_1 := blk_frozen BK377.out 1
    go_wp2_with (first | ((with_reducible refine gate_callee (f := 26) rfl ?_); refine gl 14 Try.func26 #[.agg #[.int .i64 a0_0, .slice A0_1 l0_1.length c0_1], .slice A1 l1.length c1] ?_; (with_reducible refine (tollbarref4_CapsMay.calls k a0_0 _ _ l0_1 _ _ l1 true _ ?side1 ?side2 ?side3 ?side4 A8.out).mono ?_); (case side1 => exact (Kd.C_below HR0_1.out HB.out)); (case side2 => exact HC0_1.out); (case side3 => exact (Kd.C_below HR1.out HB.out)); (case side4 => exact HC1.out); rintro e w43 ⟨rfl, hb⟩; refine ⟨_, rfl, ?_⟩; replace BK377 := ak (blk_below BK377.out hb); replace HB := ak (below_step HB.out hb); (try clear hb); (try clear hb2); (try clear hk); (try clear hi)) | (go_at_call 45; (with_reducible refine (tollbarref4_Within.calls k _ _ l1 _ _ l2 false _ ?side1 ?side2 ?side3 ?side4 A10.out).mono ?_); (case side1 => exact (Kd.C_below HR1.out HB.out)); (case side2 => exact HC1.out); (case side3 => exact (Kd.C_below HR2.out HB.out)); (case side4 => exact HC2.out); rintro e w' ⟨rfl, ⟨nd, rfl⟩⟩))
    go_meet
    case rel => exact ⟨_, (true), (by first | rfl | (simp; done) | (simp [*]; done)), H', ⟨by first | omega | exact Nat.le_refl _⟩, ⟨by (with_reducible repeat (first | refine blk_drewN ?_ _ | refine blk_drew ?_ | refine blk_alloc ?_ _)); exact BK377.out⟩, ⟨bq1 HB.out GE377.out⟩⟩
  ·
   replace c9 := Bool.eq_false_iff.mpr c9; subst c9
   have H1 : (tollbarref4_FlowMay.j0 k l2 a3 a4 true a0_0 l0_1) = some r := by rw [if_neg (show ¬ (false = true) by decide)] at H; exact H
   clear H; have H := H1; clear H1; have H' := ak H; clear H; have hcz44_0 := bkat BK377.out 0; have hcz44_1 := bkat BK377.out 1; have hfz44_0 := blk_frozen BK377.out 0; have hfz44_1 := blk_frozen BK377.out 1
   go_wp2_with (first | ((with_reducible refine gate_callee (f := 26) rfl ?_); refine gl 14 Try.func26 #[.agg #[.int .i64 a0_0, .slice A0_1 l0_1.length c0_1], .slice A1 l1.length c1] ?_; (with_reducible refine (tollbarref4_CapsMay.calls k a0_0 _ _ l0_1 _ _ l1 false _ ?side1 ?side2 ?side3 ?side4 A8.out).mono ?_); (case side1 => exact (Kd.C_below HR0_1.out HB.out)); (case side2 => exact HC0_1.out); (case side3 => exact (Kd.C_below HR1.out HB.out)); (case side4 => exact HC1.out); rintro e w45 ⟨rfl, hb⟩; refine ⟨_, rfl, ?_⟩; replace BK377 := ak (blk_below BK377.out hb); replace HB := ak (below_step HB.out hb); (try clear hb); (try clear hb2); (try clear hk); (try clear hi)))
   go_meet
   case rel => exact ⟨_, (true), (by first | rfl | (simp; done) | (simp [*]; done)), H', ⟨by first | omega | exact Nat.le_refl _⟩, ⟨BK377.out⟩, ⟨HB.out⟩⟩
 case rest =>
  clear HC6
  repeat (first | clear c1 | clear c2 | clear p2 | clear c9 | clear c11 | clear c13 | clear c15 | clear c16 | clear c16b0 | clear c16b1 | clear c26 | clear hcz17_0 | clear hcz17_1 | clear hcz19_0 | clear hcz19_1 | clear hcz21_0 | clear hcz21_1 | clear hcz24_0 | clear hcz24_1 | clear hcz26_0 | clear hcz26_1 | clear hcz28_0 | clear hcz28_1 | clear hcz30_0 | clear hcz30_1 | clear hcz32_0 | clear hcz32_1 | clear hcz34_0 | clear hcz34_1 | clear hcz36_0 | clear hcz36_1 | clear hcz38_0 | clear hcz38_1 | clear hcz40_0 | clear hcz40_1 | clear hcz42_0 | clear hcz42_1 | clear hcz44_0 | clear hcz44_1 | clear hfz17_0 | clear hfz17_1 | clear hfz19_0 | clear hfz19_1 | clear hfz21_0 | clear hfz21_1 | clear hfz24_0 | clear hfz24_1 | clear hfz26_0 | clear hfz26_1 | clear hfz28_0 | clear hfz28_1 | clear hfz30_0 | clear hfz30_1 | clear hfz32_0 | clear hfz32_1 | clear hfz34_0 | clear hfz34_1 | clear hfz36_0 | clear hfz36_1 | clear hfz38_0 | clear hfz38_1 | clear hfz40_0 | clear hfz40_1 | clear hfz42_0 | clear hfz42_1 | clear hfz44_0 | clear hfz44_1)
  obtain ⟨kq, x45_5, rfl, HA, HJ5, BK377, HB⟩ := hcut; cases kq with
  | zero => exact absurd HA.out (by simp [tollbarref4_FlowMay.j0])
  | succ kj5 =>
   have H := HA.out; clear HA; simp only [tollbarref4_FlowMay.j0] at H
   by_cases c46 : x45_5 = true
   ·
    subst c46
    have H1 : (some false) = some r := by rw [if_pos rfl] at H; exact H
    clear H; have H := H1; clear H1; obtain rfl := Option.some.inj H
    go_wp2
    go_ret
    exact ⟨by first | rfl | (simp [errW_none, errW_some] <;> rfl) | (simp [*, errW_none, errW_some] <;> rfl), bq1 HB.out GE377.out⟩
   ·
    replace c46 := Bool.eq_false_iff.mpr c46; subst c46
    have H1 : (tollbarref4_FlowMay.l0 kj5 l2 a3 a4 0 a0_0 l0_1) = some r := by rw [if_neg (show ¬ (false = true) by decide)] at H; exact H
    clear H; have H := H1; clear H1; have H' := ak H; clear H
    go_wp2
    go_loopg [11] kj5 (fun kq v11 w' => ∃ (x11_2 : Int), v11 = .int .i64 x11_2 ∧ Aside0 (tollbarref4_FlowMay.l0 kq l2 a3 a4 x11_2 a0_0 l0_1 = some r) ∧ Aside0 (kq ≤ kj5) ∧ Aside0 (w'.heap[gb377]? = some (.cells #[.int .i64 a0_0, (.slice A0_1 l0_1.length c0_1)] 24 (0, 0))) ∧ Aside0 (Below w.heap.size w w'))
    case atStart => exact ⟨(0), (by first | rfl | (simp; done) | (simp [*]; done)), H', ⟨Nat.le_refl _⟩, ⟨BK377.out⟩, ⟨HB.out⟩⟩
    case round =>
     clear H'
     repeat (first | clear c1 | clear c2 | clear p2 | clear c4 | clear c9 | clear c11 | clear c13 | clear c15 | clear c16 | clear c16b0 | clear c16b1 | clear c26 | clear c46 | clear hcz17_0 | clear hcz17_1 | clear hcz19_0 | clear hcz19_1 | clear hcz21_0 | clear hcz21_1 | clear hcz24_0 | clear hcz24_1 | clear hcz26_0 | clear hcz26_1 | clear hcz28_0 | clear hcz28_1 | clear hcz30_0 | clear hcz30_1 | clear hcz32_0 | clear hcz32_1 | clear hcz34_0 | clear hcz34_1 | clear hcz36_0 | clear hcz36_1 | clear hcz38_0 | clear hcz38_1 | clear hcz40_0 | clear hcz40_1 | clear hcz42_0 | clear hcz42_1 | clear hcz44_0 | clear hcz44_1 | clear hfz17_0 | clear hfz17_1 | clear hfz19_0 | clear hfz19_1 | clear hfz21_0 | clear hfz21_1 | clear hfz24_0 | clear hfz24_1 | clear hfz26_0 | clear hfz26_1 | clear hfz28_0 | clear hfz28_1 | clear hfz30_0 | clear hfz30_1 | clear hfz32_0 | clear hfz32_1 | clear hfz34_0 | clear hfz34_1 | clear hfz36_0 | clear hfz36_1 | clear hfz38_0 | clear hfz38_1 | clear hfz40_0 | clear hfz40_1 | clear hfz42_0 | clear hfz42_1 | clear hfz44_0 | clear hfz44_1)
     obtain ⟨x11_2, rfl, HA, HK2, BK377, HB⟩ := hrel; cases gk with
     | zero => exact absurd HA.out (by simp [tollbarref4_FlowMay.l0])
     | succ k2 =>
      have H := HA.out; clear HA; simp only [tollbarref4_FlowMay.l0] at H
      by_cases c47 : x11_2 < a0_0
      ·
       rw [if_pos c47] at H; have c47b0 : decide (x11_2 < a0_0) = true := decide_eq_true c47; clear c47
       by_cases c48 : x11_2 = a3
       ·
        rw [if_pos c48] at H; have c48b0 : (x11_2 == a3) = true := beq_iff_eq.mpr c48; have c48b1 : (x11_2 != a3) = false := bne_eq_false_iff_eq.mpr c48; clear c48; have H' := ak H; clear H; have hcz49_0 := bkat BK377.out 0; have hcz49_1 := bkat BK377.out 1; have hfz49_0 := blk_frozen BK377.out 0; have hfz49_1 := blk_frozen BK377.out 1
        go_wp2
        go_roundg k2
        case measure => have := HJ5.out; have := HK2.out; omega
        case rel => exact ⟨(wrap64 (x11_2 + 1)), (by first | rfl | (simp; done) | (simp [*]; done)), H', ⟨by have := HJ5.out; have := HK2.out; omega⟩, ⟨BK377.out⟩, ⟨HB.out⟩⟩
       ·
        rw [if_neg c48] at H; have c48b0 : (x11_2 == a3) = false := beq_eq_false_iff_ne.mpr c48; have c48b1 : (x11_2 != a3) = true := bne_iff_ne.mpr c48
        by_cases c50 : x11_2 = a4
        ·
         rw [if_pos c50] at H; have c50b0 : (x11_2 == a4) = true := beq_iff_eq.mpr c50; have c50b1 : (x11_2 != a4) = false := bne_eq_false_iff_eq.mpr c50; clear c50; have H' := ak H; clear H; have hcz51_0 := bkat BK377.out 0; have hcz51_1 := bkat BK377.out 1; have hfz51_0 := blk_frozen BK377.out 0; have hfz51_1 := blk_frozen BK377.out 1
         go_wp2
         go_roundg k2
         case measure => have := HJ5.out; have := HK2.out; omega
         case rel => exact ⟨(wrap64 (x11_2 + 1)), (by first | rfl | (simp; done) | (simp [*]; done)), H', ⟨by have := HJ5.out; have := HK2.out; omega⟩, ⟨BK377.out⟩, ⟨HB.out⟩⟩
        ·
         rw [if_neg c50] at H; have c50b0 : (x11_2 == a4) = false := beq_eq_false_iff_ne.mpr c50; have c50b1 : (x11_2 != a4) = true := bne_iff_ne.mpr c50; replace H := Option.bind_eq_some_iff.mp H; obtain ⟨t383, A520, H⟩ := H; replace H : (if t383 = 0 then (tollbarref4_FlowMay.l0 k2 l2 a3 a4 (wrap64 (x11_2 + 1)) a0_0 l0_1) else (some false)) = some r := H; have A52 := ak A520; clear A520
         by_cases c53 : t383 = 0
         ·
          rw [if_pos c53] at H; have c53b0 : (t383 == 0) = true := beq_iff_eq.mpr c53; have c53b1 : (t383 != 0) = false := bne_eq_false_iff_eq.mpr c53; clear c53; have H' := ak H; clear H; have hcz54_0 := bkat BK377.out 0; have hcz54_1 := bkat BK377.out 1; have hfz54_0 := blk_frozen BK377.out 0; have hfz54_1 := blk_frozen BK377.out 1
          go_wp2_with (first | (go_at_call 19; (with_reducible refine (tollbarref4_Gain.calls k2 a0_0 _ _ l0_1 _ _ l2 x11_2 t383 _ ?side1 ?side2 ?side3 ?side4 A52.out).mono ?_); (case side1 => exact (Kd.C_below HR0_1.out HB.out)); (case side2 => exact HC0_1.out); (case side3 => exact (Kd.C_below HR2.out HB.out)); (case side4 => exact HC2.out); rintro e w55 ⟨rfl, hb⟩; have n0_ := ak (blk_below BK377.out hb); have n1_ := ak (below_step HB.out hb); clear BK377; clear HB; have BK377 := n0_; have HB := n1_; clear n0_ n1_; (try clear hb); (try clear hb2); (try clear hk); (try clear hi)))
          go_roundg k2
          case measure => have := HJ5.out; have := HK2.out; omega
          case rel => exact ⟨(wrap64 (x11_2 + 1)), (by first | rfl | (simp; done) | (simp [*]; done)), H', ⟨by have := HJ5.out; have := HK2.out; omega⟩, ⟨BK377.out⟩, ⟨HB.out⟩⟩
         ·
          rw [if_neg c53] at H; have c53b0 : (t383 == 0) = false := beq_eq_false_iff_ne.mpr c53; have c53b1 : (t383 != 0) = true := bne_iff_ne.mpr c53; obtain rfl := Option.some.inj H; have hcz56_0 := bkat BK377.out 0; have hcz56_1 := bkat BK377.out 1; have hfz56_0 := blk_frozen BK377.out 0; have hfz56_1 := blk_frozen BK377.out 1
          go_wp2_with (first | (go_at_call 19; (with_reducible refine (tollbarref4_Gain.calls k2 a0_0 _ _ l0_1 _ _ l2 x11_2 t383 _ ?side1 ?side2 ?side3 ?side4 A52.out).mono ?_); (case side1 => exact (Kd.C_below HR0_1.out HB.out)); (case side2 => exact HC0_1.out); (case side3 => exact (Kd.C_below HR2.out HB.out)); (case side4 => exact HC2.out); rintro e w57 ⟨rfl, hb⟩; have n0_ := ak (blk_below BK377.out hb); have n1_ := ak (below_step HB.out hb); clear BK377; clear HB; have BK377 := n0_; have HB := n1_; clear n0_ n1_; (try clear hb); (try clear hb2); (try clear hk); (try clear hi)))
          go_ret
          exact ⟨by first | rfl | (simp [errW_none, errW_some] <;> rfl) | (simp [*, errW_none, errW_some] <;> rfl), bq1 HB.out GE377.out⟩
      ·
       rw [if_neg c47] at H; have c47b0 : decide (x11_2 < a0_0) = false := decide_eq_false c47; clear c47; obtain rfl := Option.some.inj H; have hcz58_0 := bkat BK377.out 0; have hcz58_1 := bkat BK377.out 1; have hfz58_0 := blk_frozen BK377.out 0; have hfz58_1 := blk_frozen BK377.out 1
       go_wp2
       go_ret
       exact ⟨by first | rfl | (simp [errW_none, errW_some] <;> rfl) | (simp [*, errW_none, errW_some] <;> rfl), bq1 HB.out GE377.out⟩
def tollbarlaw0_Num.f (a0 : Int) : Option (Int) := some a0
theorem tollbarlaw0_Num.calls (a0 : Int) (r : Int) (w : World) (h : tollbarlaw0_Num.f a0 = some r) :
    Calls Try.prog 18 #[.int .i64 a0] w fun e w' => e = .returned (.int .i64 r) ∧ Drawn0 w w' := by
  have H : (some a0) = some r := h; clear h; obtain rfl := Option.some.inj H
  go_enter Try.func18, Try.ntmps18
  go_wp2
  go_ret
  exact ⟨by first | rfl | (simp; done) | (simp [*]; done), by repeat (first | exact Drawn0.refl _ | apply Drawn0.step)⟩
def tollbarref19_SameInts.l0 : Nat → List Int → List Int → Int → Option (Bool)
  | 0, _, _, _ => none
  | k + 1, x0, x1, x5 => if x5 < (x0.length : Int) then (if 0 ≤ x5 then (if x5 < (x1.length : Int) then (if (rd x0 x5) = (rd x1 x5) then (tollbarref19_SameInts.l0 k x0 x1 (wrap64 (x5 + 1))) else (some false)) else (none)) else (none)) else (some true)
def tollbarref19_SameInts.f (k : Nat) (l0 : List Int) (l1 : List Int) : Option (Bool) := if (l0.length : Int) = (l1.length : Int) then (tollbarref19_SameInts.l0 k l0 l1 0) else (some false)
theorem tollbarref19_SameInts.calls (k : Nat) (A0 : Option Addr) (c0 : Nat) (l0 : List Int) (A1 : Option Addr) (c1 : Nat) (l1 : List Int) (r : Bool) (w : World) (hr0 : Kd.C (Kd.int .i64) w A0 l0.length l0) (hc0 : l0.length ≤ c0) (hr1 : Kd.C (Kd.int .i64) w A1 l1.length l1) (hc1 : l1.length ≤ c1) (h : tollbarref19_SameInts.f k l0 l1 = some r) :
    Calls Try.prog 50 #[.slice A0 l0.length c0, .slice A1 l1.length c1] w fun e w' => e = .returned (.bool r) ∧ Drawn0 w w' := by
  have HR0 := ak hr0; have HC0 := ak hc0; clear hr0 hc0; have HR1 := ak hr1; have HC1 := ak hc1; clear hr1 hc1; have H : (if (l0.length : Int) = (l1.length : Int) then (tollbarref19_SameInts.l0 k l0 l1 0) else (some false)) = some r := h; clear h
  by_cases c3 : (l0.length : Int) = (l1.length : Int)
  · rw [if_pos c3] at H
    have c3b0 : ((l0.length : Int) == (l1.length : Int)) = true := beq_iff_eq.mpr c3; have c3b1 : ((l0.length : Int) != (l1.length : Int)) = false := bne_eq_false_iff_eq.mpr c3
    have c3b2 : (l0.length == l1.length) = true := by first | simpa using c3 | (simp at c3 ⊢; omega)
    clear c3; have H' := ak H; clear H
    go_enter Try.func50, Try.ntmps50
    go_wp2
    repeat (go_quiet (fail); try go_wp2)
    go_loopg [5] k (fun kq v5 w' => ∃ (x5_1 : Int), v5 = .int .i64 x5_1 ∧ Aside0 (tollbarref19_SameInts.l0 kq l0 l1 x5_1 = some r) ∧ Aside0 (kq ≤ k) ∧ Drawn0 w w')
    case atStart => exact ⟨(0), (by first | rfl | (simp; done) | (simp [*]; done)), H', ⟨Nat.le_refl _⟩, by repeat (first | exact Drawn0.refl _ | apply Drawn0.step)⟩
    case round =>
      clear H'
      repeat (first | clear c1 | clear p2 | clear c3 | clear c3b0 | clear c3b1 | clear c3b2)
      obtain ⟨x5_1, rfl, HA, HK1, ⟨m1, rfl⟩⟩ := hrel; cases gk with
      | zero => exact absurd HA.out (by simp [tollbarref19_SameInts.l0])
      | succ k1 =>
        have H := HA.out; clear HA; simp only [tollbarref19_SameInts.l0] at H
        by_cases c4 : x5_1 < (l0.length : Int)
        · rw [if_pos c4] at H
          have c4b0 : decide (x5_1 < (l0.length : Int)) = true := decide_eq_true c4; clear c4
          by_cases c5 : 0 ≤ x5_1
          · rw [if_pos c5] at H
            have c5b0 : decide (0 ≤ x5_1) = true := decide_eq_true c5; clear c5
            by_cases c6 : x5_1 < (l1.length : Int)
            · rw [if_pos c6] at H
              have c6b0 : decide (x5_1 < (l1.length : Int)) = true := decide_eq_true c6; clear c6
              by_cases c7 : (rd l0 x5_1) = (rd l1 x5_1)
              · rw [if_pos c7] at H
                have c7b0 : ((rd l0 x5_1) == (rd l1 x5_1)) = true := beq_iff_eq.mpr c7; have c7b1 : ((rd l0 x5_1) != (rd l1 x5_1)) = false := bne_eq_false_iff_eq.mpr c7; clear c7; have H' := ak H; clear H; have p384 : 0 ≤ (x5_1 : Int) := od; have q384 : x5_1 < (l0.length : Int) := od; obtain ⟨ad384, e384, hx384_0⟩ := Kd.at_int HR0.out x5_1 p384 q384; cases e384; replace p384 := eq_true p384; replace q384 := eq_true q384; have p385 : 0 ≤ (x5_1 : Int) := od; have q385 : x5_1 < (l1.length : Int) := od; obtain ⟨ad385, e385, hx385_0⟩ := Kd.at_int HR1.out x5_1 p385 q385; cases e385; replace p385 := eq_true p385; replace q385 := eq_true q385
                go_wp2
                repeat (go_quiet (fail); try go_wp2)
                go_roundg k1
                case measure => have := HK1.out; omega
                case rel => exact ⟨(wrap64 (x5_1 + 1)), (by first | rfl | (simp; done) | (simp [*]; done)), H', ⟨by have := HK1.out; omega⟩, by repeat (first | exact Drawn0.refl _ | apply Drawn0.step)⟩
              · rw [if_neg c7] at H
                have c7b0 : ((rd l0 x5_1) == (rd l1 x5_1)) = false := beq_eq_false_iff_ne.mpr c7; have c7b1 : ((rd l0 x5_1) != (rd l1 x5_1)) = true := bne_iff_ne.mpr c7; obtain rfl := Option.some.inj H; have p384 : 0 ≤ (x5_1 : Int) := od; have q384 : x5_1 < (l0.length : Int) := od; obtain ⟨ad384, e384, hx384_0⟩ := Kd.at_int HR0.out x5_1 p384 q384; cases e384; replace p384 := eq_true p384; replace q384 := eq_true q384; have p385 : 0 ≤ (x5_1 : Int) := od; have q385 : x5_1 < (l1.length : Int) := od; obtain ⟨ad385, e385, hx385_0⟩ := Kd.at_int HR1.out x5_1 p385 q385; cases e385; replace p385 := eq_true p385; replace q385 := eq_true q385
                go_wp2
                repeat (go_quiet (fail); try go_wp2)
                go_ret
                exact ⟨by first | rfl | (simp; done) | (simp [*]; done), by repeat (first | exact Drawn0.refl _ | apply Drawn0.step)⟩
            · rw [if_neg c6] at H
              exact absurd H (by simp)
          · rw [if_neg c5] at H
            exact absurd H (by simp)
        · rw [if_neg c4] at H
          have c4b0 : decide (x5_1 < (l0.length : Int)) = false := decide_eq_false c4; clear c4; obtain rfl := Option.some.inj H
          go_wp2
          repeat (go_quiet (fail); try go_wp2)
          go_ret
          exact ⟨by first | rfl | (simp; done) | (simp [*]; done), by repeat (first | exact Drawn0.refl _ | apply Drawn0.step)⟩
  · rw [if_neg c3] at H
    have c3b0 : ((l0.length : Int) == (l1.length : Int)) = false := beq_eq_false_iff_ne.mpr c3; have c3b1 : ((l0.length : Int) != (l1.length : Int)) = true := bne_iff_ne.mpr c3
    have c3b2 : (l0.length == l1.length) = false := by first | simpa using c3 | (simp at c3 ⊢; omega)
    obtain rfl := Option.some.inj H
    go_enter Try.func50, Try.ntmps50
    go_wp2
    repeat (go_quiet (fail); try go_wp2)
    go_ret
    exact ⟨by first | rfl | (simp; done) | (simp [*]; done), by repeat (first | exact Drawn0.refl _ | apply Drawn0.step)⟩
def tollbarlaw0_SameInts.f (k : Nat) (l0 : List Int) (l1 : List Int) : Option (Bool) := (tollbarref19_SameInts.f k l0 l1).bind fun t386 => (some t386)
theorem tollbarlaw0_SameInts.calls (k : Nat) (A0 : Option Addr) (c0 : Nat) (l0 : List Int) (A1 : Option Addr) (c1 : Nat) (l1 : List Int) (r : Bool) (w : World) (hr0 : Kd.C (Kd.int .i64) w A0 l0.length l0) (hc0 : l0.length ≤ c0) (hr1 : Kd.C (Kd.int .i64) w A1 l1.length l1) (hc1 : l1.length ≤ c1) (h : tollbarlaw0_SameInts.f k l0 l1 = some r) :
    Calls Try.prog 25 #[.slice A0 l0.length c0, .slice A1 l1.length c1] w fun e w' => e = .returned (.bool r) ∧ Drawn0 w w' := by
  have HR0 := ak hr0; have HC0 := ak hc0; clear hr0 hc0; have HR1 := ak hr1; have HC1 := ak hc1; clear hr1 hc1; have H : ((tollbarref19_SameInts.f k l0 l1).bind fun t386 => (some t386)) = some r := h; clear h; replace H := Option.bind_eq_some_iff.mp H; obtain ⟨t386, A30, H⟩ := H; replace H : (some t386) = some r := H; have A3 := ak A30; clear A30; obtain rfl := Option.some.inj H
  go_enter Try.func25, Try.ntmps25
  go_wp2_with (first | ((with_reducible refine gate_callee (f := 50) rfl ?_); refine goesL_ (some 7) rfl rfl Try.func50 (by kernel_rfl) rfl #[.slice A0 l0.length c0, .slice A1 l1.length c1] rfl (by (try simp only [List.map_toArray, List.map_cons, List.map_nil]); first | done | rfl | (simp only [List.length_drop, List.length_take]; rfl)) ?_; (with_reducible refine (tollbarref19_SameInts.calls k _ _ l0 _ _ l1 t386 _ ?side1 ?side2 ?side3 ?side4 A3.out).mono ?_); (case side1 => exact HR0.out); (case side2 => exact HC0.out); (case side3 => exact HR1.out); (case side4 => exact HC1.out); rintro e w' ⟨rfl, ⟨nd, rfl⟩⟩; refine ⟨_, rfl, ?_⟩))
  go_ret
  exact ⟨by first | rfl | (simp; done) | (simp [*]; done), by repeat (first | exact Drawn0.refl _ | apply Drawn0.step)⟩
def tollbarlaw0_KeptInts.f (k : Nat) (l0 : List Int) (l1 : List Int) : Option (Bool) := if l0.length + 2 < 17592186044416 then (if l0.length = l1.length then ((tollbarlaw0_SameInts.f k l0 l1).bind fun t341 => (if t341 = true then some true else none)) else none) else none
theorem tollbarlaw0_KeptInts.calls (k : Nat) (A0 : Option Addr) (c0 : Nat) (l0 : List Int) (A1 : Option Addr) (c1 : Nat) (l1 : List Int) (r : Bool) (w : World) (hr0 : Kd.C (Kd.int .i64) w A0 (l0 ++ kz).length (l0 ++ kz)) (hc0 : (l0 ++ kz).length ≤ c0) (hr1 : Kd.C (Kd.int .i64) w A1 l1.length l1) (hc1 : l1.length ≤ c1) (h : tollbarlaw0_KeptInts.f k l0 l1 = some r) :
    Calls Try.prog 23 #[.slice A0 l0.length c0, .slice A1 l1.length c1] w fun e w' => e = .returned (.bool r) ∧ Drawn0 w w' := by
  have HR0 := ak hr0; have HC0 := ak hc0; clear hr0 hc0; have HR1 := ak hr1; have HC1 := ak hc1; clear hr1 hc1; have H : (if l0.length + 2 < 17592186044416 then (if l0.length = l1.length then ((tollbarlaw0_SameInts.f k l0 l1).bind fun t341 => (if t341 = true then some true else none)) else none) else none) = some r := h; clear h
  by_cases c1 : l0.length + 2 < 17592186044416
  · rw [if_pos c1] at H
    by_cases c2 : l0.length = l1.length
    · rw [if_pos c2] at H
      replace H := Option.bind_eq_some_iff.mp H; obtain ⟨t341, A60, H⟩ := H; cases t341 with
      | false => exact absurd H (by simp)
      | true =>
        have H1 : some true = some r := H; obtain rfl : true = r := Option.some.inj H1; clear H H1; have A6 := ak A60; clear A60
        obtain ⟨ji3, hji3⟩ : ∃ j_ : Int, (wrap64 ((l0.length : Int) + 2)) = j_ := ⟨_, rfl⟩
        have hji3w : (IntKind.i64.wrap ((l0.length : Int) + 2)) = ji3 := (i64_w _).trans hji3
        have vji3 : ji3 = (l0.length : Int) + 2 := by rw [← hji3]; exact kept_wrap _ 2 c1 (by omega) (by omega)
        obtain ⟨ji11, hji11⟩ : ∃ j_ : Int, (wrap64 ((l1.length : Int) + 1)) = j_ := ⟨_, rfl⟩
        have hji11w : (IntKind.i64.wrap ((l1.length : Int) + 1)) = ji11 := (i64_w _).trans hji11
        have vji11 : ji11 = (l0.length : Int) + 1 := by rw [← hji11, ← c2]; exact kept_wrap _ 1 c1 (by omega) (by omega)
        obtain ⟨i014, hi014, _, hsz14, _⟩ := info_parts info3; have hcut14 := kept_cut (P := Try.prog) 25 3 Try.underlying25 hi014 A0 l0.length c0 ji3 (by omega) (by have := HC0.out; rw [kz_len] at this; omega)
        obtain ⟨fl, hfl⟩ : ∃ fl : List Int, fl = l0 ++ kz := ⟨_, rfl⟩
        have HR340 := ak (show Kd.C (Kd.int .i64) w A0 fl.length fl by rw [hfl]; exact HR0.out)
        have e14 : ji3.toNat = fl.length := by rw [hfl, kz_len]; omega
        rw [e14] at hcut14
        have p342 : 0 ≤ (l1.length : Int) := by omega
        have q342 : (l1.length : Int) < (fl.length : Int) := by rw [hfl, kz_len]; omega
        have z342 : rd fl (l1.length : Int) = -7777 := by rw [← c2, hfl]; exact kept_0 l0
        have p343 : 0 ≤ ji11 := by omega
        have q343 : ji11 < (fl.length : Int) := by rw [hfl, kz_len]; omega
        have z343 : rd fl ji11 = -8888 := by rw [vji11, hfl]; exact kept_1 l0
        have p342d : decide (0 ≤ (l1.length : Int)) = true := decide_eq_true p342; have q342d : decide ((l1.length : Int) < (fl.length : Int)) = true := decide_eq_true q342; have q342e : decide (l1.length < fl.length) = true := decide_eq_true (by omega); have p343d : decide (0 ≤ ji11) = true := decide_eq_true p343; have q343d : decide (ji11 < (fl.length : Int)) = true := decide_eq_true q343; replace p342 := eq_true p342; replace q342 := eq_true q342; replace p343 := eq_true p343; replace q343 := eq_true q343; replace hfl := ak hfl; clear c1 c2 vji3 vji11 e14
        go_enter Try.func23, Try.ntmps23
        go_wp2_with (first | ((with_reducible refine gate_callee (f := 25) rfl ?_); refine goesL_ (some 13) rfl rfl Try.func25 (by kernel_rfl) rfl #[.slice A0 l0.length c0, .slice A1 l1.length c1] rfl (by (try simp only [List.map_toArray, List.map_cons, List.map_nil]); first | done | rfl | (simp only [List.length_drop, List.length_take]; rfl)) ?_; (with_reducible refine (tollbarlaw0_SameInts.calls k _ _ l0 _ _ l1 true _ ?side1 ?side2 ?side3 ?side4 A6.out).mono ?_); (case side1 => exact (kept_c HR0.out)); (case side2 => exact (kept_le HC0.out)); (case side3 => exact HR1.out); (case side4 => exact HC1.out); rintro e w' ⟨rfl, ⟨nd, rfl⟩⟩; refine ⟨_, rfl, ?_⟩; obtain ⟨ad342, e342, hx342_0⟩ := Kd.at_int HR340.out (l1.length : Int) (of_eq_true p342) (of_eq_true q342); rw [z342] at hx342_0; cases e342; (try simp only [Go.IntWalk.toNatUp] at hx342_0); obtain ⟨ad343, e343, hx343_0⟩ := Kd.at_int HR340.out (ji11) (of_eq_true p343) (of_eq_true q343); rw [z343] at hx343_0; obtain rfl : ad342 = ad343 := (by injection e343)))
        go_ret
        exact ⟨by first | rfl | (simp; done) | (simp [*]; done), by repeat (first | exact Drawn0.refl _ | apply Drawn0.step)⟩
    · rw [if_neg c2] at H
      exact absurd H (by simp)
  · rw [if_neg c1] at H
    exact absurd H (by simp)
def tollbarref4_VertsMay.l0 : Nat → List Int → Int → Int → List (S53) → Option (Bool)
 | 0, _, _, _, _ => none
 | k + 1, x1, x5, xka, xkb => if x5 < (x1.length : Int) then (if 0 ≤ x5 then ((tollbarref4_Vertex.f xka xkb (rd x1 x5)).bind fun t598 => (if t598 = true then (if x5 > 0 then (if 0 ≤ (wrap64 (x5 - 1)) then (if (wrap64 (x5 - 1)) < (x1.length : Int) then (if (rd x1 x5) ≤ (rd x1 (wrap64 (x5 - 1))) then (some false) else (tollbarref4_VertsMay.l0 k x1 (wrap64 (x5 + 1)) xka xkb)) else (none)) else (none)) else (tollbarref4_VertsMay.l0 k x1 (wrap64 (x5 + 1)) xka xkb)) else (some false))) else (none)) else (some true)
def tollbarref4_VertsMay.f (k : Nat) (a0_0 : Int) (l0_1 : List (S53)) (l1 : List Int) : Option (Bool) := tollbarref4_VertsMay.l0 k l1 0 a0_0 l0_1
def tollbarref4_VertsMay.T4 : Bool × List (List Nat × List Nat) := (true, [([], []), ([], []), ([], []), ([1, 2], [1, 2]), ([3], [3]), ([0, 4], [0, 4]), ([5], [5]), ([6, 5], [6]), ([7], [7]), ([8, 7], [7, 8]), ([9, 7, 7], [7, 9]), ([10], [10]), ([10], [10]), ([11, 12, 10], [10, 11, 12]), ([13, 10], [10, 13]), ([10], [10]), ([10], [10]), ([16, 10], [10, 16]), ([15, 17, 10], [10, 15, 17]), ([18, 10], [10, 18]), ([14, 19, 10], [10, 14, 19]), ([10, 20, 7], [7, 10, 20]), ([7, 21], [7, 21])])
def tollbarref4_VertsMay.B4 : List Nat := [0, 0, 0, 6, 14, 31, 63, 127, 255, 511, 1023, 2047, 2047, 8191, 16383, 2047, 2047, 67583, 231423, 493567, 1048575, 2097151, 4194303]
theorem tollbarref4_VertsMay.tab4 : rtab .any (opsOf Try.f56 4) = tollbarref4_VertsMay.T4 := by kernel_rfl
theorem tollbarref4_VertsMay.bits4 : waitsOk tollbarref4_VertsMay.T4.2 tollbarref4_VertsMay.B4 = true := by kernel_rfl
theorem tollbarref4_VertsMay.calls (k : Nat) (a0_0 : Int) (A0_1 : Option Addr) (c0_1 : Nat) (l0_1 : List (S53)) (A1 : Option Addr) (c1 : Nat) (l1 : List Int) (r : Bool) (w : World) (hr0_1 : Kd.C k53 w A0_1 l0_1.length l0_1) (hc0_1 : l0_1.length ≤ c0_1) (hr1 : Kd.C (Kd.int .i64) w A1 l1.length l1) (hc1 : l1.length ≤ c1) (h : tollbarref4_VertsMay.f k a0_0 l0_1 l1 = some r) :
  Calls Try.prog 56 #[.agg #[.int .i64 a0_0, .slice A0_1 l0_1.length c0_1], .slice A1 l1.length c1] w fun e w' => e = .returned (.bool r) ∧ Below w.heap.size w w' := by
 have hu24 := Try.underlying24; have HR0_1 := ak hr0_1; have HC0_1 := ak hc0_1; clear hr0_1 hc0_1; have HR1 := ak hr1; have HC1 := ak hc1; clear hr1 hc1; have HB := ak (Below.refl w.heap.size w); have H : (tollbarref4_VertsMay.l0 k l1 0 a0_0 l0_1) = some r := h; clear h; have H' := ak H; clear H
 go_enter Try.func56, Try.ntmps56
 go_wp2_with (first | ((with_reducible refine gate_dst (N := 2) rfl ?_); refine box_event ?hg (N := 2) ?hd (cs := #[.int .i64 a0_0, .slice A0_1 l0_1.length c0_1]) (t := 24) ?hr ?_; (case hd => rfl); (case hg => rfl); (case hr => first | (go_simp; done) | (go_simp; rfl)); intro gb596 hg w3 hbox hb; have BK596 := ak (hbox); have GW596 := ak ((by rw [hg]; exact (below_size HB.out) : w.heap.size ≤ gb596)); have GE596 := ak ((by rw [hg]; exact (below_size HB.out) : w.heap.size ≤ gb596)); replace HB := ak (below_step HB.out hb); clear hb hbox hg))
 go_loopg [5] k (fun kq v5 w' => ∃ (x5_1 : Int), v5 = .int .i64 x5_1 ∧ Aside0 (tollbarref4_VertsMay.l0 kq l1 x5_1 a0_0 l0_1 = some r) ∧ Aside0 (kq ≤ k) ∧ Aside0 (w'.heap[gb596]? = some (.cells #[.int .i64 a0_0, (.slice A0_1 l0_1.length c0_1)] 24 (0, 0))) ∧ Aside0 (Below w.heap.size w w'))
 case atStart => exact ⟨(0), (by first | rfl | (simp; done) | (simp [*]; done)), H', ⟨Nat.le_refl _⟩, ⟨BK596.out⟩, ⟨HB.out⟩⟩
 case round =>
  clear H'
  try clear c1
  try clear p2
  obtain ⟨x5_1, rfl, HA, HK1, BK596, HB⟩ := hrel; cases gk with
  | zero => exact absurd HA.out (by simp [tollbarref4_VertsMay.l0])
  | succ k1 =>
   have H := HA.out; clear HA; simp only [tollbarref4_VertsMay.l0] at H
   by_cases c4 : x5_1 < (l1.length : Int)
   ·
    rw [if_pos c4] at H; have c4b0 : decide (x5_1 < (l1.length : Int)) = true := decide_eq_true c4; clear c4
    by_cases c5 : 0 ≤ x5_1
    ·
     rw [if_pos c5] at H; have c5b0 : decide (0 ≤ x5_1) = true := decide_eq_true c5; clear c5; replace H := Option.bind_eq_some_iff.mp H; obtain ⟨t598, A60, H⟩ := H; replace H : (if t598 = true then (if x5_1 > 0 then (if 0 ≤ (wrap64 (x5_1 - 1)) then (if (wrap64 (x5_1 - 1)) < (l1.length : Int) then (if (rd l1 x5_1) ≤ (rd l1 (wrap64 (x5_1 - 1))) then (some false) else (tollbarref4_VertsMay.l0 k1 l1 (wrap64 (x5_1 + 1)) a0_0 l0_1)) else (none)) else (none)) else (tollbarref4_VertsMay.l0 k1 l1 (wrap64 (x5_1 + 1)) a0_0 l0_1)) else (some false)) = some r := H; have A6 := ak A60; clear A60
     by_cases c7 : t598 = true
     ·
      subst c7
      have H1 : (if x5_1 > 0 then (if 0 ≤ (wrap64 (x5_1 - 1)) then (if (wrap64 (x5_1 - 1)) < (l1.length : Int) then (if (rd l1 x5_1) ≤ (rd l1 (wrap64 (x5_1 - 1))) then (some false) else (tollbarref4_VertsMay.l0 k1 l1 (wrap64 (x5_1 + 1)) a0_0 l0_1)) else (none)) else (none)) else (tollbarref4_VertsMay.l0 k1 l1 (wrap64 (x5_1 + 1)) a0_0 l0_1)) = some r := by rw [if_pos rfl] at H; exact H
      clear H; have H := H1; clear H1
      by_cases c8 : x5_1 > 0
      ·
       rw [if_pos c8] at H; have c8b0 : decide (0 < x5_1) = true := decide_eq_true c8; clear c8
       obtain ⟨ji9, hji9⟩ : ∃ j_ : Int, (wrap64 (x5_1 - 1)) = j_ := ⟨_, rfl⟩
       replace H : (if 0 ≤ (ji9) then (if (ji9) < (l1.length : Int) then (if (rd l1 x5_1) ≤ (rd l1 (ji9)) then (some false) else (tollbarref4_VertsMay.l0 k1 l1 (wrap64 (x5_1 + 1)) a0_0 l0_1)) else (none)) else (none)) = some r := by first | (rw [hji9] at H; exact H) | (simp only [hji9] at H ⊢; exact H)
       (try rw [hji9] at A6); have hji9w : (IntKind.i64.wrap (x5_1 - 1)) = ji9 := (i64_w _).trans hji9
       by_cases c10 : 0 ≤ (ji9)
       ·
        rw [if_pos c10] at H; have c10b0 : decide (0 ≤ (ji9)) = true := decide_eq_true c10; clear c10
        by_cases c11 : (ji9) < (l1.length : Int)
        ·
         rw [if_pos c11] at H; have c11b0 : decide ((ji9) < (l1.length : Int)) = true := decide_eq_true c11; clear c11
         by_cases c12 : (rd l1 x5_1) ≤ (rd l1 (ji9))
         ·
          rw [if_pos c12] at H; have c12b0 : decide ((rd l1 x5_1) ≤ (rd l1 (ji9))) = true := decide_eq_true c12; clear c12; obtain rfl := Option.some.inj H
          try go_wp2
          replace BK596 := ak (blk_drew BK596.out); replace HB := ak (below_drew1 HB.out); have p597 : 0 ≤ (x5_1 : Int) := od; have q597 : x5_1 < (l1.length : Int) := od; obtain ⟨ad597, e597, hx597_0⟩ := Kd.at_int HR1.out x5_1 p597 q597; have hw597_0 := hx597_0; cases e597; replace hx597_0 := (HB.out.cell (World.block_lt_of_cell? w _ hx597_0)).trans hx597_0; replace p597 := eq_true p597; replace q597 := eq_true q597; have p599 : 0 ≤ (x5_1 : Int) := od; have q599 : x5_1 < (l1.length : Int) := od; obtain ⟨ad599, e599, hx599_0⟩ := Kd.at_int HR1.out x5_1 p599 q599; have hw599_0 := hx599_0
          obtain rfl : ad597 = ad599 := (by injection e599)
          replace hx599_0 := (HB.out.cell (World.block_lt_of_cell? w _ hx599_0)).trans hx599_0; replace p599 := eq_true p599; replace q599 := eq_true q599; have p600 : 0 ≤ ((ji9) : Int) := od; have q600 : (ji9) < (l1.length : Int) := od; obtain ⟨ad600, e600, hx600_0⟩ := Kd.at_int HR1.out (ji9) p600 q600; have hw600_0 := hx600_0
          obtain rfl : ad597 = ad600 := (by injection e600)
          replace hx600_0 := (HB.out.cell (World.block_lt_of_cell? w _ hx600_0)).trans hx600_0; replace p600 := eq_true p600; replace q600 := eq_true q600; refine start_ (n := 23) (S := fun w' => w'.cell? ⟨gb596, 0, none⟩ = some (.int .i64 a0_0) ∧ w'.cell? ⟨gb596, 1, none⟩ = some (.slice A0_1 l0_1.length c0_1) ∧ w'.cell? (ad597.add (x5_1).toNat) = some (.int .i64 (rd l1 x5_1)) ∧ w'.cell? (ad597.add (x5_1).toNat) = some (.int .i64 (rd l1 x5_1)) ∧ w'.cell? (ad597.add ((ji9)).toNat) = some (.int .i64 (rd l1 (ji9)))) (ds := []) (mk 23 0) (by kernel_rfl) rfl (by kernel_rfl) ⟨(blk_cell BK596.out 0).trans rfl, (blk_cell BK596.out 1).trans rfl, ((HB.out.cell (World.block_lt_of_cell? w _ hw597_0)).trans hw597_0), ((HB.out.cell (World.block_lt_of_cell? w _ hw599_0)).trans hw599_0), ((HB.out.cell (World.block_lt_of_cell? w _ hw600_0)).trans hw600_0)⟩ (fun hHeld => ?_); refine with_tabW tollbarref4_VertsMay.tab4 tollbarref4_VertsMay.bits4 (fun HT_ HW_ => ?_); generalize wr.drew = w13 at BK596 HB hx597_0 hx599_0 hx600_0 hHeld ⊢; refine pu 1 13 (mk 23 2) HT_ ?_; refine pu 2 14 (mk 23 6) HT_ ?_; refine pu 3 15 (mk 23 14) HT_ ?_; refine ta 0 12 (mk 23 15) rfl rfl HT_ HW_ hHeld (Or.inl ⟨by rfl, by rintro w' ⟨s0, s1, s2, s3, s4⟩; go_simp; with_reducible rfl⟩) ?_; refine ta 4 16 (mk 23 31) rfl rfl HT_ HW_ hHeld (Or.inl ⟨by rfl, by rintro w' ⟨s0, s1, s2, s3, s4⟩; go_simp; with_reducible rfl⟩) ?_; refine one_ (i := 5) (N := some 17) (mk 23 63) rfl rfl (one_of HT_.out (by kernel_rfl)) (by decide) (fun K hK => ?_); refine gs Try.func46 #[.agg #[.int .i64 a0_0, .slice A0_1 l0_1.length c0_1], .int .i64 (rd l1 x5_1)] ?_
          with_reducible refine (tollbarref4_Vertex.calls a0_0 _ _ l0_1 (rd l1 x5_1) true _ ?side1 ?side2 A6.out).mono ?_
          (case side1 => exact (Kd.C_below HR0_1.out HB.out)); (case side2 => exact HC0_1.out); rintro e w14 ⟨rfl, hb⟩; refine ⟨_, rfl, ?_⟩; replace BK596 := ak (blk_below BK596.out hb); replace HB := ak (below_step HB.out hb); (try clear hb); (try clear hb2); (try clear hk); (try clear hi); refine hK.out _ _ ⟨(blk_cell BK596.out 0).trans rfl, (blk_cell BK596.out 1).trans rfl, ((HB.out.cell (World.block_lt_of_cell? w _ hw597_0)).trans hw597_0), ((HB.out.cell (World.block_lt_of_cell? w _ hw599_0)).trans hw599_0), ((HB.out.cell (World.block_lt_of_cell? w _ hw600_0)).trans hw600_0)⟩ (fun hHeld => ?_); clear hK K; refine no ?_; refine pu 6 18 (mk 23 127) HT_ ?_; refine pu 7 19 (mk 23 255) HT_ ?_; refine pu 8 20 (mk 23 511) HT_ ?_; refine pu 9 21 (mk 23 1023) HT_ ?_; refine pu 10 22 (mk 23 2047) HT_ ?_; refine pu 11 23 (mk 23 4095) HT_ ?_; refine pu 12 24 (mk 23 8191) HT_ ?_; refine pu 13 25 (mk 23 16383) HT_ ?_; refine pu 15 27 (mk 23 49151) HT_ ?_; refine pu 16 28 (mk 23 114687) HT_ ?_; refine pu 17 29 (mk 23 245759) HT_ ?_; refine pu 18 30 (mk 23 507903) HT_ ?_; refine ta 14 26 (mk 23 524287) rfl rfl HT_ HW_ hHeld (Or.inl ⟨by rfl, by rintro w' ⟨s0, s1, s2, s3, s4⟩; go_simp; with_reducible rfl⟩) ?_; refine ta 19 31 (mk 23 1048575) rfl rfl HT_ HW_ hHeld (Or.inl ⟨by rfl, by rintro w' ⟨s0, s1, s2, s3, s4⟩; go_simp; with_reducible rfl⟩) ?_; refine pu 20 32 (mk 23 2097151) HT_ ?_; refine pu 21 33 (mk 23 4194303) HT_ ?_; refine pu 22 34 (mk 23 8388607) HT_ ?_; refine done_ (done_of HT_.out (by kernel_rfl)) ?_
          try go_wp2
          go_ret
          exact ⟨by first | rfl | (simp [errW_none, errW_some] <;> rfl) | (simp only [← hji9]; first | rfl | (simp [errW_none, errW_some] <;> rfl)) | (simp [*, errW_none, errW_some] <;> rfl), bq1 HB.out GE596.out⟩
         ·
          rw [if_neg c12] at H; have c12b0 : decide ((rd l1 x5_1) ≤ (rd l1 (ji9))) = false := decide_eq_false c12; clear c12; have H' := ak H; clear H
          try go_wp2
          replace BK596 := ak (blk_drew BK596.out); replace HB := ak (below_drew1 HB.out); have p597 : 0 ≤ (x5_1 : Int) := od; have q597 : x5_1 < (l1.length : Int) := od; obtain ⟨ad597, e597, hx597_0⟩ := Kd.at_int HR1.out x5_1 p597 q597; have hw597_0 := hx597_0; cases e597; replace hx597_0 := (HB.out.cell (World.block_lt_of_cell? w _ hx597_0)).trans hx597_0; replace p597 := eq_true p597; replace q597 := eq_true q597; have p599 : 0 ≤ (x5_1 : Int) := od; have q599 : x5_1 < (l1.length : Int) := od; obtain ⟨ad599, e599, hx599_0⟩ := Kd.at_int HR1.out x5_1 p599 q599; have hw599_0 := hx599_0
          obtain rfl : ad597 = ad599 := (by injection e599)
          replace hx599_0 := (HB.out.cell (World.block_lt_of_cell? w _ hx599_0)).trans hx599_0; replace p599 := eq_true p599; replace q599 := eq_true q599; have p600 : 0 ≤ ((ji9) : Int) := od; have q600 : (ji9) < (l1.length : Int) := od; obtain ⟨ad600, e600, hx600_0⟩ := Kd.at_int HR1.out (ji9) p600 q600; have hw600_0 := hx600_0
          obtain rfl : ad597 = ad600 := (by injection e600)
          replace hx600_0 := (HB.out.cell (World.block_lt_of_cell? w _ hx600_0)).trans hx600_0; replace p600 := eq_true p600; replace q600 := eq_true q600; refine start_ (n := 23) (S := fun w' => w'.cell? ⟨gb596, 0, none⟩ = some (.int .i64 a0_0) ∧ w'.cell? ⟨gb596, 1, none⟩ = some (.slice A0_1 l0_1.length c0_1) ∧ w'.cell? (ad597.add (x5_1).toNat) = some (.int .i64 (rd l1 x5_1)) ∧ w'.cell? (ad597.add (x5_1).toNat) = some (.int .i64 (rd l1 x5_1)) ∧ w'.cell? (ad597.add ((ji9)).toNat) = some (.int .i64 (rd l1 (ji9)))) (ds := []) (mk 23 0) (by kernel_rfl) rfl (by kernel_rfl) ⟨(blk_cell BK596.out 0).trans rfl, (blk_cell BK596.out 1).trans rfl, ((HB.out.cell (World.block_lt_of_cell? w _ hw597_0)).trans hw597_0), ((HB.out.cell (World.block_lt_of_cell? w _ hw599_0)).trans hw599_0), ((HB.out.cell (World.block_lt_of_cell? w _ hw600_0)).trans hw600_0)⟩ (fun hHeld => ?_); refine with_tabW tollbarref4_VertsMay.tab4 tollbarref4_VertsMay.bits4 (fun HT_ HW_ => ?_); generalize wr.drew = w15 at BK596 HB hx597_0 hx599_0 hx600_0 hHeld ⊢; refine pu 1 13 (mk 23 2) HT_ ?_; refine pu 2 14 (mk 23 6) HT_ ?_; refine pu 3 15 (mk 23 14) HT_ ?_; refine ta 0 12 (mk 23 15) rfl rfl HT_ HW_ hHeld (Or.inl ⟨by rfl, by rintro w' ⟨s0, s1, s2, s3, s4⟩; go_simp; with_reducible rfl⟩) ?_; refine ta 4 16 (mk 23 31) rfl rfl HT_ HW_ hHeld (Or.inl ⟨by rfl, by rintro w' ⟨s0, s1, s2, s3, s4⟩; go_simp; with_reducible rfl⟩) ?_; refine one_ (i := 5) (N := some 17) (mk 23 63) rfl rfl (one_of HT_.out (by kernel_rfl)) (by decide) (fun K hK => ?_); refine gs Try.func46 #[.agg #[.int .i64 a0_0, .slice A0_1 l0_1.length c0_1], .int .i64 (rd l1 x5_1)] ?_
          with_reducible refine (tollbarref4_Vertex.calls a0_0 _ _ l0_1 (rd l1 x5_1) true _ ?side1 ?side2 A6.out).mono ?_
          (case side1 => exact (Kd.C_below HR0_1.out HB.out)); (case side2 => exact HC0_1.out); rintro e w16 ⟨rfl, hb⟩; refine ⟨_, rfl, ?_⟩; replace BK596 := ak (blk_below BK596.out hb); replace HB := ak (below_step HB.out hb); (try clear hb); (try clear hb2); (try clear hk); (try clear hi); refine hK.out _ _ ⟨(blk_cell BK596.out 0).trans rfl, (blk_cell BK596.out 1).trans rfl, ((HB.out.cell (World.block_lt_of_cell? w _ hw597_0)).trans hw597_0), ((HB.out.cell (World.block_lt_of_cell? w _ hw599_0)).trans hw599_0), ((HB.out.cell (World.block_lt_of_cell? w _ hw600_0)).trans hw600_0)⟩ (fun hHeld => ?_); clear hK K; refine no ?_; refine pu 6 18 (mk 23 127) HT_ ?_; refine pu 7 19 (mk 23 255) HT_ ?_; refine pu 8 20 (mk 23 511) HT_ ?_; refine pu 9 21 (mk 23 1023) HT_ ?_; refine pu 10 22 (mk 23 2047) HT_ ?_; refine pu 11 23 (mk 23 4095) HT_ ?_; refine pu 12 24 (mk 23 8191) HT_ ?_; refine pu 13 25 (mk 23 16383) HT_ ?_; refine pu 15 27 (mk 23 49151) HT_ ?_; refine pu 16 28 (mk 23 114687) HT_ ?_; refine pu 17 29 (mk 23 245759) HT_ ?_; refine pu 18 30 (mk 23 507903) HT_ ?_; refine ta 14 26 (mk 23 524287) rfl rfl HT_ HW_ hHeld (Or.inl ⟨by rfl, by rintro w' ⟨s0, s1, s2, s3, s4⟩; go_simp; with_reducible rfl⟩) ?_; refine ta 19 31 (mk 23 1048575) rfl rfl HT_ HW_ hHeld (Or.inl ⟨by rfl, by rintro w' ⟨s0, s1, s2, s3, s4⟩; go_simp; with_reducible rfl⟩) ?_; refine pu 20 32 (mk 23 2097151) HT_ ?_; refine pu 21 33 (mk 23 4194303) HT_ ?_; refine pu 22 34 (mk 23 8388607) HT_ ?_; refine done_ (done_of HT_.out (by kernel_rfl)) ?_
          try go_wp2
          go_roundg k1
          case measure => have := HK1.out; omega
          case rel => exact ⟨(wrap64 (x5_1 + 1)), (by first | rfl | (simp; done) | (simp [*]; done)), H', ⟨by have := HK1.out; omega⟩, ⟨BK596.out⟩, ⟨HB.out⟩⟩
        ·
         rw [if_neg c11] at H; exact absurd H (by simp)
       ·
        rw [if_neg c10] at H; exact absurd H (by simp)
      ·
       rw [if_neg c8] at H; have c8b0 : decide (0 < x5_1) = false := decide_eq_false c8; clear c8; have H' := ak H; clear H
       try go_wp2
       replace BK596 := ak (blk_drew BK596.out); replace HB := ak (below_drew1 HB.out); have p597 : 0 ≤ (x5_1 : Int) := od; have q597 : x5_1 < (l1.length : Int) := od; obtain ⟨ad597, e597, hx597_0⟩ := Kd.at_int HR1.out x5_1 p597 q597; have hw597_0 := hx597_0; cases e597; replace hx597_0 := (HB.out.cell (World.block_lt_of_cell? w _ hx597_0)).trans hx597_0; replace p597 := eq_true p597; replace q597 := eq_true q597; refine start_ (n := 23) (S := fun w' => w'.cell? ⟨gb596, 0, none⟩ = some (.int .i64 a0_0) ∧ w'.cell? ⟨gb596, 1, none⟩ = some (.slice A0_1 l0_1.length c0_1) ∧ w'.cell? (ad597.add (x5_1).toNat) = some (.int .i64 (rd l1 x5_1))) (ds := []) (mk 23 0) (by kernel_rfl) rfl (by kernel_rfl) ⟨(blk_cell BK596.out 0).trans rfl, (blk_cell BK596.out 1).trans rfl, ((HB.out.cell (World.block_lt_of_cell? w _ hw597_0)).trans hw597_0)⟩ (fun hHeld => ?_); refine with_tabW tollbarref4_VertsMay.tab4 tollbarref4_VertsMay.bits4 (fun HT_ HW_ => ?_); generalize wr.drew = w17 at BK596 HB hx597_0 hHeld ⊢; refine pu 1 13 (mk 23 2) HT_ ?_; refine pu 2 14 (mk 23 6) HT_ ?_; refine pu 3 15 (mk 23 14) HT_ ?_; refine ta 0 12 (mk 23 15) rfl rfl HT_ HW_ hHeld (Or.inl ⟨by rfl, by rintro w' ⟨s0, s1, s2⟩; go_simp; with_reducible rfl⟩) ?_; refine ta 4 16 (mk 23 31) rfl rfl HT_ HW_ hHeld (Or.inl ⟨by rfl, by rintro w' ⟨s0, s1, s2⟩; go_simp; with_reducible rfl⟩) ?_; refine one_ (i := 5) (N := some 17) (mk 23 63) rfl rfl (one_of HT_.out (by kernel_rfl)) (by decide) (fun K hK => ?_); refine gs Try.func46 #[.agg #[.int .i64 a0_0, .slice A0_1 l0_1.length c0_1], .int .i64 (rd l1 x5_1)] ?_
       with_reducible refine (tollbarref4_Vertex.calls a0_0 _ _ l0_1 (rd l1 x5_1) true _ ?side1 ?side2 A6.out).mono ?_
       (case side1 => exact (Kd.C_below HR0_1.out HB.out)); (case side2 => exact HC0_1.out); rintro e w18 ⟨rfl, hb⟩; refine ⟨_, rfl, ?_⟩; replace BK596 := ak (blk_below BK596.out hb); replace HB := ak (below_step HB.out hb); (try clear hb); (try clear hb2); (try clear hk); (try clear hi); refine hK.out _ _ ⟨(blk_cell BK596.out 0).trans rfl, (blk_cell BK596.out 1).trans rfl, ((HB.out.cell (World.block_lt_of_cell? w _ hw597_0)).trans hw597_0)⟩ (fun hHeld => ?_); clear hK K; refine no ?_; refine pu 6 18 (mk 23 127) HT_ ?_; refine pu 7 19 (mk 23 255) HT_ ?_; refine pu 8 20 (mk 23 511) HT_ ?_; refine pu 9 21 (mk 23 1023) HT_ ?_; refine pu 10 22 (mk 23 2047) HT_ ?_; refine po 11 23 (mk 23 4095) HT_ ?_; refine po 12 24 (mk 23 8191) HT_ ?_; refine po 13 25 (mk 23 16383) HT_ ?_; refine po 14 26 (mk 23 32767) HT_ ?_; refine po 15 27 (mk 23 65535) HT_ ?_; refine po 16 28 (mk 23 131071) HT_ ?_; refine po 17 29 (mk 23 262143) HT_ ?_; refine po 18 30 (mk 23 524287) HT_ ?_; refine po 19 31 (mk 23 1048575) HT_ ?_; refine po 20 32 (mk 23 2097151) HT_ ?_; refine pu 21 33 (mk 23 4194303) HT_ ?_; refine pu 22 34 (mk 23 8388607) HT_ ?_; refine done_ (done_of HT_.out (by kernel_rfl)) ?_
       try go_wp2
       go_roundg k1
       case measure => have := HK1.out; omega
       case rel => exact ⟨(wrap64 (x5_1 + 1)), (by first | rfl | (simp; done) | (simp [*]; done)), H', ⟨by have := HK1.out; omega⟩, ⟨BK596.out⟩, ⟨HB.out⟩⟩
     ·
      replace c7 := Bool.eq_false_iff.mpr c7; subst c7
      have H1 : (some false) = some r := by rw [if_neg (show ¬ (false = true) by decide)] at H; exact H
      clear H; have H := H1; clear H1; obtain rfl := Option.some.inj H
      try go_wp2
      replace BK596 := ak (blk_drew BK596.out); replace HB := ak (below_drew1 HB.out); have p597 : 0 ≤ (x5_1 : Int) := od; have q597 : x5_1 < (l1.length : Int) := od; obtain ⟨ad597, e597, hx597_0⟩ := Kd.at_int HR1.out x5_1 p597 q597; have hw597_0 := hx597_0; cases e597; replace hx597_0 := (HB.out.cell (World.block_lt_of_cell? w _ hx597_0)).trans hx597_0; replace p597 := eq_true p597; replace q597 := eq_true q597; refine start_ (n := 23) (S := fun w' => w'.cell? ⟨gb596, 0, none⟩ = some (.int .i64 a0_0) ∧ w'.cell? ⟨gb596, 1, none⟩ = some (.slice A0_1 l0_1.length c0_1) ∧ w'.cell? (ad597.add (x5_1).toNat) = some (.int .i64 (rd l1 x5_1))) (ds := []) (mk 23 0) (by kernel_rfl) rfl (by kernel_rfl) ⟨(blk_cell BK596.out 0).trans rfl, (blk_cell BK596.out 1).trans rfl, ((HB.out.cell (World.block_lt_of_cell? w _ hw597_0)).trans hw597_0)⟩ (fun hHeld => ?_); refine with_tabW tollbarref4_VertsMay.tab4 tollbarref4_VertsMay.bits4 (fun HT_ HW_ => ?_); generalize wr.drew = w19 at BK596 HB hx597_0 hHeld ⊢; refine pu 1 13 (mk 23 2) HT_ ?_; refine pu 2 14 (mk 23 6) HT_ ?_; refine pu 3 15 (mk 23 14) HT_ ?_; refine ta 0 12 (mk 23 15) rfl rfl HT_ HW_ hHeld (Or.inl ⟨by rfl, by rintro w' ⟨s0, s1, s2⟩; go_simp; with_reducible rfl⟩) ?_; refine ta 4 16 (mk 23 31) rfl rfl HT_ HW_ hHeld (Or.inl ⟨by rfl, by rintro w' ⟨s0, s1, s2⟩; go_simp; with_reducible rfl⟩) ?_; refine one_ (i := 5) (N := some 17) (mk 23 63) rfl rfl (one_of HT_.out (by kernel_rfl)) (by decide) (fun K hK => ?_); refine gs Try.func46 #[.agg #[.int .i64 a0_0, .slice A0_1 l0_1.length c0_1], .int .i64 (rd l1 x5_1)] ?_
      with_reducible refine (tollbarref4_Vertex.calls a0_0 _ _ l0_1 (rd l1 x5_1) false _ ?side1 ?side2 A6.out).mono ?_
      (case side1 => exact (Kd.C_below HR0_1.out HB.out)); (case side2 => exact HC0_1.out); rintro e w20 ⟨rfl, hb⟩; refine ⟨_, rfl, ?_⟩; replace BK596 := ak (blk_below BK596.out hb); replace HB := ak (below_step HB.out hb); (try clear hb); (try clear hb2); (try clear hk); (try clear hi); refine hK.out _ _ ⟨(blk_cell BK596.out 0).trans rfl, (blk_cell BK596.out 1).trans rfl, ((HB.out.cell (World.block_lt_of_cell? w _ hw597_0)).trans hw597_0)⟩ (fun hHeld => ?_); clear hK K; refine no ?_; refine pu 6 18 (mk 23 127) HT_ ?_; refine pu 7 19 (mk 23 255) HT_ ?_; refine po 8 20 (mk 23 511) HT_ ?_; refine po 9 21 (mk 23 1023) HT_ ?_; refine po 10 22 (mk 23 2047) HT_ ?_; refine po 11 23 (mk 23 4095) HT_ ?_; refine po 12 24 (mk 23 8191) HT_ ?_; refine po 13 25 (mk 23 16383) HT_ ?_; refine po 14 26 (mk 23 32767) HT_ ?_; refine po 15 27 (mk 23 65535) HT_ ?_; refine po 16 28 (mk 23 131071) HT_ ?_; refine po 17 29 (mk 23 262143) HT_ ?_; refine po 18 30 (mk 23 524287) HT_ ?_; refine po 19 31 (mk 23 1048575) HT_ ?_; refine po 20 32 (mk 23 2097151) HT_ ?_; refine po 21 33 (mk 23 4194303) HT_ ?_; refine pu 22 34 (mk 23 8388607) HT_ ?_; refine done_ (done_of HT_.out (by kernel_rfl)) ?_
      try go_wp2
      go_ret
      exact ⟨by first | rfl | (simp [errW_none, errW_some] <;> rfl) | (simp [*, errW_none, errW_some] <;> rfl), bq1 HB.out GE596.out⟩
    ·
     rw [if_neg c5] at H; exact absurd H (by simp)
   ·
    rw [if_neg c4] at H; have c4b0 : decide (x5_1 < (l1.length : Int)) = false := decide_eq_false c4; clear c4; obtain rfl := Option.some.inj H
    go_wp2
    go_ret
    exact ⟨by first | rfl | (simp [errW_none, errW_some] <;> rfl) | (simp [*, errW_none, errW_some] <;> rfl), bq1 HB.out GE596.out⟩
def tollbarref4_Among.l0 : Nat → List Int → Int → Int → Option (Bool)
  | 0, _, _, _ => none
  | k + 1, x0, x1, x5 => if x5 < (x0.length : Int) then (if 0 ≤ x5 then (if (rd x0 x5) = x1 then (some true) else (tollbarref4_Among.l0 k x0 x1 (wrap64 (x5 + 1)))) else (none)) else (some false)
def tollbarref4_Among.f (k : Nat) (l0 : List Int) (a1 : Int) : Option (Bool) := tollbarref4_Among.l0 k l0 a1 0
theorem tollbarref4_Among.calls (k : Nat) (A0 : Option Addr) (c0 : Nat) (l0 : List Int) (a1 : Int) (r : Bool) (w : World) (hr0 : Kd.C (Kd.int .i64) w A0 l0.length l0) (hc0 : l0.length ≤ c0) (h : tollbarref4_Among.f k l0 a1 = some r) :
    Calls Try.prog 57 #[.slice A0 l0.length c0, .int .i64 a1] w fun e w' => e = .returned (.bool r) ∧ Drawn0 w w' := by
  have HR0 := ak hr0; have HC0 := ak hc0; clear hr0 hc0; have H : (tollbarref4_Among.l0 k l0 a1 0) = some r := h; clear h; have H' := ak H; clear H
  go_enter Try.func57, Try.ntmps57
  go_wp2
  go_loopg [5] k (fun kq v5 w' => ∃ (x5_1 : Int), v5 = .int .i64 x5_1 ∧ Aside0 (tollbarref4_Among.l0 kq l0 a1 x5_1 = some r) ∧ Aside0 (kq ≤ k) ∧ Drawn0 w w')
  case atStart => exact ⟨(0), (by first | rfl | (simp; done) | (simp [*]; done)), H', ⟨Nat.le_refl _⟩, by repeat (first | exact Drawn0.refl _ | apply Drawn0.step)⟩
  case round =>
    clear H'
    try clear p2
    obtain ⟨x5_1, rfl, HA, HK1, ⟨m1, rfl⟩⟩ := hrel; cases gk with
    | zero => exact absurd HA.out (by simp [tollbarref4_Among.l0])
    | succ k1 =>
      have H := HA.out; clear HA; simp only [tollbarref4_Among.l0] at H
      by_cases c3 : x5_1 < (l0.length : Int)
      · rw [if_pos c3] at H
        have c3b0 : decide (x5_1 < (l0.length : Int)) = true := decide_eq_true c3; clear c3
        by_cases c4 : 0 ≤ x5_1
        · rw [if_pos c4] at H
          have c4b0 : decide (0 ≤ x5_1) = true := decide_eq_true c4; clear c4
          by_cases c5 : (rd l0 x5_1) = a1
          · rw [if_pos c5] at H
            have c5b0 : ((rd l0 x5_1) == a1) = true := beq_iff_eq.mpr c5; have c5b1 : ((rd l0 x5_1) != a1) = false := bne_eq_false_iff_eq.mpr c5; clear c5; obtain rfl := Option.some.inj H; have p601 : 0 ≤ (x5_1 : Int) := od; have q601 : x5_1 < (l0.length : Int) := od; obtain ⟨ad601, e601, hx601_0⟩ := Kd.at_int HR0.out x5_1 p601 q601; cases e601; replace p601 := eq_true p601; replace q601 := eq_true q601
            go_wp2
            go_ret
            exact ⟨by first | rfl | (simp; done) | (simp [*]; done), by repeat (first | exact Drawn0.refl _ | apply Drawn0.step)⟩
          · rw [if_neg c5] at H
            have c5b0 : ((rd l0 x5_1) == a1) = false := beq_eq_false_iff_ne.mpr c5; have c5b1 : ((rd l0 x5_1) != a1) = true := bne_iff_ne.mpr c5; have H' := ak H; clear H; have p601 : 0 ≤ (x5_1 : Int) := od; have q601 : x5_1 < (l0.length : Int) := od; obtain ⟨ad601, e601, hx601_0⟩ := Kd.at_int HR0.out x5_1 p601 q601; cases e601; replace p601 := eq_true p601; replace q601 := eq_true q601
            go_wp2
            go_roundg k1
            case measure => have := HK1.out; omega
            case rel => exact ⟨(wrap64 (x5_1 + 1)), (by first | rfl | (simp; done) | (simp [*]; done)), H', ⟨by have := HK1.out; omega⟩, by repeat (first | exact Drawn0.refl _ | apply Drawn0.step)⟩
        · rw [if_neg c4] at H
          exact absurd H (by simp)
      · rw [if_neg c3] at H
        have c3b0 : decide (x5_1 < (l0.length : Int)) = false := decide_eq_false c3; clear c3; obtain rfl := Option.some.inj H
        go_wp2
        go_ret
        exact ⟨by first | rfl | (simp; done) | (simp [*]; done), by repeat (first | exact Drawn0.refl _ | apply Drawn0.step)⟩
mutual
def tollbarref4_Leaving.j0 : Nat → List Int → Bool → Int → List (S53) → Option (List Int × Int)
 | 0, _, _, _, _ => none
 | k + 1, x1, x16, xkb, xka => if x16 = true then (some (([] : List Int), 800)) else (tollbarref4_Leaving.l0 k x1 ([] : List Int) 0 xkb xka)
def tollbarref4_Leaving.l0 : Nat → List Int → List Int → Int → Int → List (S53) → Option (List Int × Int)
 | 0, _, _, _, _, _ => none
 | k + 1, x1, x6, x7, xkb, xka => if x7 < (xka.length : Int) then (if 0 ≤ x7 then ((tollbarref4_Among.f k x1 ((rd_T53 xka x7).f0)).bind fun t606 => (if t606 = true then ((tollbarref4_Among.f k x1 ((rd_T53 xka x7).f1)).bind fun t608 => (if t608 = true then (tollbarref4_Leaving.l0 k x1 x6 (wrap64 (x7 + 1)) xkb xka) else (if x6.length < 17592186044416 then (tollbarref4_Leaving.l0 k x1 (x6 ++ [x7]) (wrap64 (x7 + 1)) xkb xka) else (none)))) else (tollbarref4_Leaving.l0 k x1 x6 (wrap64 (x7 + 1)) xkb xka))) else (none)) else (some (x6, 0))
end
def tollbarref4_Leaving.f (k : Nat) (a0_0 : Int) (l0_1 : List (S53)) (l1 : List Int) : Option (List Int × Int) := (tollbarref4_GraphMay.f k a0_0 l0_1).bind fun t603 => (if t603 = true then ((tollbarref4_VertsMay.f k a0_0 l0_1 l1).bind fun t604 => (tollbarref4_Leaving.j0 k l1 (!t604) a0_0 l0_1)) else (tollbarref4_Leaving.j0 k l1 true a0_0 l0_1))
theorem tollbarref4_Leaving.calls (k : Nat) (a0_0 : Int) (A0_1 : Option Addr) (c0_1 : Nat) (l0_1 : List (S53)) (A1 : Option Addr) (c1 : Nat) (l1 : List Int) (r1 : List Int) (r2 : Int) (w : World) (hr0_1 : Kd.C k53 w A0_1 l0_1.length l0_1) (hc0_1 : l0_1.length ≤ c0_1) (hr1 : Kd.C (Kd.int .i64) w A1 l1.length l1) (hc1 : l1.length ≤ c1) (h : tollbarref4_Leaving.f k a0_0 l0_1 l1 = some (r1, r2)) :
  Calls Try.prog 58 #[.agg #[.int .i64 a0_0, .slice A0_1 l0_1.length c0_1], .slice A1 l1.length c1] w fun e w' => ∃ v0_ : Value, e = .returned (.tuple #[v0_, .int .i64 r2]) ∧ Kd.R (Kd.int .i64) 3 w' w.heap.size (fun _ => True) v0_ r1 ∧ Below w.heap.size w w' := by
 have hu24 := Try.underlying24; have HR0_1 := ak hr0_1; have HC0_1 := ak hc0_1; clear hr0_1 hc0_1; have HR1 := ak hr1; have HC1 := ak hc1; clear hr1 hc1; have HB := ak (Below.refl w.heap.size w); have H : ((tollbarref4_GraphMay.f k a0_0 l0_1).bind fun t603 => (if t603 = true then ((tollbarref4_VertsMay.f k a0_0 l0_1 l1).bind fun t604 => (tollbarref4_Leaving.j0 k l1 (!t604) a0_0 l0_1)) else (tollbarref4_Leaving.j0 k l1 true a0_0 l0_1))) = some (r1, r2) := h; clear h; have HC3 := ak H; clear H
 go_enter Try.func58, Try.ntmps58
 go_upto_region 1 with (first | ((with_reducible refine gate_dst (N := 2) rfl ?_); refine box_event ?hg (N := 2) ?hd (cs := #[.int .i64 a0_0, .slice A0_1 l0_1.length c0_1]) (t := 24) ?hr ?_; (case hd => rfl); (case hg => rfl); (case hr => first | (go_simp; done) | (go_simp; rfl)); intro gb602 hg w4 hbox hb; have BK602 := ak (hbox); have GW602 := ak ((by rw [hg]; exact (below_size HB.out) : w.heap.size ≤ gb602)); have GE602 := ak ((by rw [hg]; exact (below_size HB.out) : w.heap.size ≤ gb602)); replace HB := ak (below_step HB.out hb); clear hb hbox hg))
 (try simp only [Act.put, List.setIfInBounds_toArray, List.set_cons_zero, List.set_cons_succ])
 go_cut [16] (fun v16 wc => ∃ (kq : Nat) (x16_2 : Bool), v16 = .bool x16_2 ∧ Aside0 (tollbarref4_Leaving.j0 kq l1 x16_2 a0_0 l0_1 = some (r1, r2)) ∧ Aside0 (kq ≤ k) ∧ Aside0 (wc.heap[gb602]? = some (.cells #[.int .i64 a0_0, (.slice A0_1 l0_1.length c0_1)] 24 (0, 0))) ∧ Aside0 (Below w.heap.size w wc))
 case first =>
  have H := HC3.out; clear HC3; replace H := Option.bind_eq_some_iff.mp H; obtain ⟨t603, A50, H⟩ := H; replace H : (if t603 = true then ((tollbarref4_VertsMay.f k a0_0 l0_1 l1).bind fun t604 => (tollbarref4_Leaving.j0 k l1 (!t604) a0_0 l0_1)) else (tollbarref4_Leaving.j0 k l1 true a0_0 l0_1)) = some (r1, r2) := H; have A5 := ak A50; clear A50
  by_cases c6 : t603 = true
  ·
   subst c6
   have H1 : ((tollbarref4_VertsMay.f k a0_0 l0_1 l1).bind fun t604 => (tollbarref4_Leaving.j0 k l1 (!t604) a0_0 l0_1)) = some (r1, r2) := by rw [if_pos rfl] at H; exact H
   clear H; have H := H1; clear H1; replace H := Option.bind_eq_some_iff.mp H; obtain ⟨t604, A70, H⟩ := H; replace H : (tollbarref4_Leaving.j0 k l1 (!t604) a0_0 l0_1) = some (r1, r2) := H; have A7 := ak A70; clear A70; have H' := ak H; clear H; have hcz8_0 := bkat BK602.out 0; have hcz8_1 := bkat BK602.out 1; have hfz8_0 := blk_frozen BK602.out 0; have hfz8_1 := blk_frozen BK602.out 1
   go_wp2_with (first | ((with_reducible refine gate_callee (f := 51) rfl ?_); refine gl 9 Try.func51 #[.agg #[.int .i64 a0_0, .slice A0_1 l0_1.length c0_1]] ?_; (with_reducible refine (tollbarref4_GraphMay.calls k a0_0 _ _ l0_1 true _ ?side1 ?side2 A5.out).mono ?_); (case side1 => exact (Kd.C_below HR0_1.out HB.out)); (case side2 => exact HC0_1.out); rintro e w9 ⟨rfl, hb⟩; refine ⟨_, rfl, ?_⟩; replace BK602 := ak (blk_below BK602.out hb); replace HB := ak (below_step HB.out hb); (try clear hb); (try clear hb2); (try clear hk); (try clear hi); have hcz10_0 := bkat BK602.out 0; have hcz10_1 := bkat BK602.out 1; have hfz10_0 := blk_frozen BK602.out 0; have hfz10_1 := blk_frozen BK602.out 1) | (go_at_call 56; (with_reducible refine (tollbarref4_VertsMay.calls k a0_0 _ _ l0_1 _ _ l1 t604 _ ?side1 ?side2 ?side3 ?side4 A7.out).mono ?_); (case side1 => exact (Kd.C_below HR0_1.out HB.out)); (case side2 => exact HC0_1.out); (case side3 => exact (Kd.C_below HR1.out HB.out)); (case side4 => exact HC1.out); rintro e w11 ⟨rfl, hb⟩; have n0_ := ak (blk_below BK602.out hb); have n1_ := ak (below_step HB.out hb); clear BK602; clear HB; have BK602 := n0_; have HB := n1_; clear n0_ n1_; (try clear hb); (try clear hb2); (try clear hk); (try clear hi)))
   go_meet
   case rel => exact ⟨_, (!t604), (by first | rfl | (simp; done) | (simp [*]; done)), H', ⟨by first | omega | exact Nat.le_refl _⟩, ⟨BK602.out⟩, ⟨HB.out⟩⟩
  ·
   replace c6 := Bool.eq_false_iff.mpr c6; subst c6
   have H1 : (tollbarref4_Leaving.j0 k l1 true a0_0 l0_1) = some (r1, r2) := by rw [if_neg (show ¬ (false = true) by decide)] at H; exact H
   clear H; have H := H1; clear H1; have H' := ak H; clear H; have hcz12_0 := bkat BK602.out 0; have hcz12_1 := bkat BK602.out 1; have hfz12_0 := blk_frozen BK602.out 0; have hfz12_1 := blk_frozen BK602.out 1
   go_wp2_with (first | ((with_reducible refine gate_callee (f := 51) rfl ?_); refine gl 9 Try.func51 #[.agg #[.int .i64 a0_0, .slice A0_1 l0_1.length c0_1]] ?_; (with_reducible refine (tollbarref4_GraphMay.calls k a0_0 _ _ l0_1 false _ ?side1 ?side2 A5.out).mono ?_); (case side1 => exact (Kd.C_below HR0_1.out HB.out)); (case side2 => exact HC0_1.out); rintro e w13 ⟨rfl, hb⟩; refine ⟨_, rfl, ?_⟩; replace BK602 := ak (blk_below BK602.out hb); replace HB := ak (below_step HB.out hb); (try clear hb); (try clear hb2); (try clear hk); (try clear hi)))
   go_meet
   case rel => exact ⟨_, (true), (by first | rfl | (simp; done) | (simp [*]; done)), H', ⟨by first | omega | exact Nat.le_refl _⟩, ⟨BK602.out⟩, ⟨HB.out⟩⟩
 case rest =>
  clear HC3
  repeat (first | clear c1 | clear p2 | clear c5 | clear c6 | clear hcz10_0 | clear hcz10_1 | clear hcz12_0 | clear hcz12_1 | clear hcz8_0 | clear hcz8_1 | clear hfz10_0 | clear hfz10_1 | clear hfz12_0 | clear hfz12_1 | clear hfz8_0 | clear hfz8_1)
  obtain ⟨kq, x16_2, rfl, HA, HJ2, BK602, HB⟩ := hcut; cases kq with
  | zero => exact absurd HA.out (by simp [tollbarref4_Leaving.j0])
  | succ kj2 =>
   have H := HA.out; clear HA; simp only [tollbarref4_Leaving.j0] at H
   by_cases c14 : x16_2 = true
   ·
    subst c14
    have H1 : (some (([] : List Int), 800)) = some (r1, r2) := by rw [if_pos rfl] at H; exact H
    clear H; have H := H1; clear H1; simp only [Option.some.injEq, Prod.mk.injEq] at H; obtain ⟨rfl, rfl⟩ := H
    go_wp2
    go_ret2
    exact ⟨_, by first | rfl | (simp [errW_none, errW_some] <;> rfl) | (simp [*, errW_none, errW_some] <;> rfl), by first | exact Kd.R_nil _ _ _ _ _ | exact Kd.N_nil _ _ _ _ _ | exact Kd.V_nil _ _ _ _ _ | exact Kd.Q_nil _ _ _ _ _ | exact Kd.S_nil _ _ _ _ _, bq1 HB.out GE602.out⟩
   ·
    replace c14 := Bool.eq_false_iff.mpr c14; subst c14
    have H1 : (tollbarref4_Leaving.l0 kj2 l1 ([] : List Int) 0 a0_0 l0_1) = some (r1, r2) := by rw [if_neg (show ¬ (false = true) by decide)] at H; exact H
    clear H; have H := H1; clear H1; have H' := ak H; clear H
    go_wp2
    go_loopg [6, 7] kj2 (fun kq v6 v7 w' => ∃ (x6_2 : List Int) (x7_2 : Int), v7 = .int .i64 x7_2 ∧ Aside0 (tollbarref4_Leaving.l0 kq l1 x6_2 x7_2 a0_0 l0_1 = some (r1, r2)) ∧ Aside0 (kq ≤ kj2) ∧ Aside0 (Kd.R (Kd.int .i64) 3 w' w.heap.size (fun _ => True) v6 x6_2) ∧ Aside0 (w'.heap[gb602]? = some (.cells #[.int .i64 a0_0, (.slice A0_1 l0_1.length c0_1)] 24 (0, 0))) ∧ Aside0 (Below w.heap.size w w'))
    case atStart => exact ⟨(([] : List Int)), (0), (by first | rfl | (simp; done) | (simp [*]; done)), H', ⟨Nat.le_refl _⟩, ⟨by first | exact Kd.R_nil _ _ _ _ _ | exact Kd.N_nil _ _ _ _ _ | exact Kd.V_nil _ _ _ _ _ | exact Kd.Q_nil _ _ _ _ _ | exact Kd.S_nil _ _ _ _ _⟩, ⟨BK602.out⟩, ⟨HB.out⟩⟩
    case round =>
     clear H'
     repeat (first | clear c1 | clear p2 | clear c5 | clear c6 | clear c14 | clear hcz10_0 | clear hcz10_1 | clear hcz12_0 | clear hcz12_1 | clear hcz8_0 | clear hcz8_1 | clear hfz10_0 | clear hfz10_1 | clear hfz12_0 | clear hfz12_1 | clear hfz8_0 | clear hfz8_1)
     obtain ⟨x6_2, x7_2, rfl, HA, HK2, HO_6, BK602, HB⟩ := hrel; cases gk with
     | zero => exact absurd HA.out (by simp [tollbarref4_Leaving.l0])
     | succ k2 =>
      have H := HA.out; clear HA; simp only [tollbarref4_Leaving.l0] at H
      by_cases c15 : x7_2 < (l0_1.length : Int)
      ·
       rw [if_pos c15] at H; have c15b0 : decide (x7_2 < (l0_1.length : Int)) = true := decide_eq_true c15; clear c15
       by_cases c16 : 0 ≤ x7_2
       ·
        rw [if_pos c16] at H; have c16b0 : decide (0 ≤ x7_2) = true := decide_eq_true c16; clear c16; replace H := Option.bind_eq_some_iff.mp H; obtain ⟨t606, A170, H⟩ := H; replace H : (if t606 = true then ((tollbarref4_Among.f k2 l1 ((rd_T53 l0_1 x7_2).f1)).bind fun t608 => (if t608 = true then (tollbarref4_Leaving.l0 k2 l1 x6_2 (wrap64 (x7_2 + 1)) a0_0 l0_1) else (if x6_2.length < 17592186044416 then (tollbarref4_Leaving.l0 k2 l1 (x6_2 ++ [x7_2]) (wrap64 (x7_2 + 1)) a0_0 l0_1) else (none)))) else (tollbarref4_Leaving.l0 k2 l1 x6_2 (wrap64 (x7_2 + 1)) a0_0 l0_1)) = some (r1, r2) := H; have A17 := ak A170; clear A170
        by_cases c18 : t606 = true
        ·
         subst c18
         have H1 : ((tollbarref4_Among.f k2 l1 ((rd_T53 l0_1 x7_2).f1)).bind fun t608 => (if t608 = true then (tollbarref4_Leaving.l0 k2 l1 x6_2 (wrap64 (x7_2 + 1)) a0_0 l0_1) else (if x6_2.length < 17592186044416 then (tollbarref4_Leaving.l0 k2 l1 (x6_2 ++ [x7_2]) (wrap64 (x7_2 + 1)) a0_0 l0_1) else (none)))) = some (r1, r2) := by rw [if_pos rfl] at H; exact H
         clear H; have H := H1; clear H1; replace H := Option.bind_eq_some_iff.mp H; obtain ⟨t608, A190, H⟩ := H; replace H : (if t608 = true then (tollbarref4_Leaving.l0 k2 l1 x6_2 (wrap64 (x7_2 + 1)) a0_0 l0_1) else (if x6_2.length < 17592186044416 then (tollbarref4_Leaving.l0 k2 l1 (x6_2 ++ [x7_2]) (wrap64 (x7_2 + 1)) a0_0 l0_1) else (none))) = some (r1, r2) := H; have A19 := ak A190; clear A190
         by_cases c20 : t608 = true
         ·
          subst c20
          have H1 : (tollbarref4_Leaving.l0 k2 l1 x6_2 (wrap64 (x7_2 + 1)) a0_0 l0_1) = some (r1, r2) := by rw [if_pos rfl] at H; exact H
          clear H; have H := H1; clear H1; have H' := ak H; clear H; have hcz21_0 := bkat BK602.out 0; have hcz21_1 := bkat BK602.out 1; have hfz21_0 := blk_frozen BK602.out 0; have hfz21_1 := blk_frozen BK602.out 1; have p605 : 0 ≤ (x7_2 : Int) := od; have q605 : x7_2 < (l0_1.length : Int) := od; obtain ⟨ad605, e605, hx605_0, hx605_1, hx605_2⟩ := at_T53 HR0_1.out x7_2 p605 q605; cases e605; replace hx605_0 := (HB.out.cell (World.block_lt_of_cell? w _ hx605_0)).trans hx605_0; replace hx605_1 := (HB.out.cell (World.block_lt_of_cell? w _ hx605_1)).trans hx605_1; replace hx605_2 := (HB.out.cell (World.block_lt_of_cell? w _ hx605_2)).trans hx605_2; replace p605 := eq_true p605; replace q605 := eq_true q605
          go_wp2_with (first | ((with_reducible refine gate_callee (f := 57) rfl ?_); refine gl 31 Try.func57 #[.slice A1 l1.length c1, .int .i64 ((rd_T53 l0_1 x7_2).f0)] ?_; (with_reducible refine (tollbarref4_Among.calls k2 _ _ l1 ((rd_T53 l0_1 x7_2).f0) true _ ?side1 ?side2 A17.out).mono ?_); (case side1 => exact (Kd.C_below HR1.out HB.out)); (case side2 => exact HC1.out); rintro e w' ⟨rfl, ⟨nd, rfl⟩⟩; refine ⟨_, rfl, ?_⟩; have p607 : 0 ≤ (x7_2 : Int) := od; have q607 : x7_2 < (l0_1.length : Int) := od; obtain ⟨ad607, e607, hx607_0, hx607_1, hx607_2⟩ := at_T53 HR0_1.out x7_2 p607 q607; obtain rfl : ad605 = ad607 := (by injection e607); replace hx607_0 := (HB.out.cell (World.block_lt_of_cell? w _ hx607_0)).trans hx607_0; replace hx607_1 := (HB.out.cell (World.block_lt_of_cell? w _ hx607_1)).trans hx607_1; replace hx607_2 := (HB.out.cell (World.block_lt_of_cell? w _ hx607_2)).trans hx607_2; replace p607 := eq_true p607; replace q607 := eq_true q607) | (go_at_call 57; (with_reducible refine (tollbarref4_Among.calls k2 _ _ l1 ((rd_T53 l0_1 x7_2).f1) true _ ?side1 ?side2 A19.out).mono ?_); (case side1 => exact bc (Kd.C_below HR1.out HB.out)); (case side2 => exact HC1.out); rintro e w' ⟨rfl, ⟨nd, rfl⟩⟩))
          go_roundg k2
          case measure => have := HJ2.out; have := HK2.out; omega
          case rel => exact ⟨(x6_2), (wrap64 (x7_2 + 1)), (by first | rfl | (simp; done) | (simp [*]; done)), H', ⟨by have := HJ2.out; have := HK2.out; omega⟩, ⟨by (with_reducible repeat (first | apply Kd.R_alloc | apply Kd.R_drewN | apply Kd.R_drew)); exact HO_6.out⟩, ⟨by (with_reducible repeat (first | refine blk_drewN ?_ _ | refine blk_drew ?_ | refine blk_alloc ?_ _)); exact BK602.out⟩, ⟨bq1 HB.out GE602.out⟩⟩
         ·
          replace c20 := Bool.eq_false_iff.mpr c20; subst c20
          have H1 : (if x6_2.length < 17592186044416 then (tollbarref4_Leaving.l0 k2 l1 (x6_2 ++ [x7_2]) (wrap64 (x7_2 + 1)) a0_0 l0_1) else (none)) = some (r1, r2) := by rw [if_neg (show ¬ (false = true) by decide)] at H; exact H
          clear H; have H := H1; clear H1
          by_cases c22 : x6_2.length < 17592186044416
          ·
           rw [if_pos c22] at H; have LMc22 := ak c22; clear c22
           obtain ⟨y609, hy609⟩ : ∃ y_ : List Int, y_ = (x6_2 ++ [x7_2]) := ⟨_, rfl⟩
           replace H : (tollbarref4_Leaving.l0 k2 l1 y609 (wrap64 (x7_2 + 1)) a0_0 l0_1) = some (r1, r2) := by first | (rw [hy609]; with_reducible exact H) | (have H2_ := (Option.bind_some _ _).symm.trans H; rw [hy609]; with_reducible exact H2_) | (have H2_ := (Option.bind_some _ _).symm.trans H; with_reducible exact H2_) | with_reducible exact H | (rw [hy609]; exact H) | exact H
           have Ny609 := ak hy609; clear hy609; have H' := ak H; clear H; have hcz23_0 := bkat BK602.out 0; have hcz23_1 := bkat BK602.out 1; have hfz23_0 := blk_frozen BK602.out 0; have hfz23_1 := blk_frozen BK602.out 1; have p605 : 0 ≤ (x7_2 : Int) := od; have q605 : x7_2 < (l0_1.length : Int) := od; obtain ⟨ad605, e605, hx605_0, hx605_1, hx605_2⟩ := at_T53 HR0_1.out x7_2 p605 q605; cases e605; replace hx605_0 := (HB.out.cell (World.block_lt_of_cell? w _ hx605_0)).trans hx605_0; replace hx605_1 := (HB.out.cell (World.block_lt_of_cell? w _ hx605_1)).trans hx605_1; replace hx605_2 := (HB.out.cell (World.block_lt_of_cell? w _ hx605_2)).trans hx605_2; replace p605 := eq_true p605; replace q605 := eq_true q605
           go_wp2_with (first | ((with_reducible refine gate_callee (f := 57) rfl ?_); refine gl 31 Try.func57 #[.slice A1 l1.length c1, .int .i64 ((rd_T53 l0_1 x7_2).f0)] ?_; (with_reducible refine (tollbarref4_Among.calls k2 _ _ l1 ((rd_T53 l0_1 x7_2).f0) true _ ?side1 ?side2 A17.out).mono ?_); (case side1 => exact bc (Kd.C_below HR1.out HB.out)); (case side2 => exact HC1.out); rintro e w' ⟨rfl, ⟨nd, rfl⟩⟩; refine ⟨_, rfl, ?_⟩; have p607 : 0 ≤ (x7_2 : Int) := od; have q607 : x7_2 < (l0_1.length : Int) := od; obtain ⟨ad607, e607, hx607_0, hx607_1, hx607_2⟩ := at_T53 HR0_1.out x7_2 p607 q607; obtain rfl : ad605 = ad607 := (by injection e607); replace hx607_0 := (HB.out.cell (World.block_lt_of_cell? w _ hx607_0)).trans hx607_0; replace hx607_1 := (HB.out.cell (World.block_lt_of_cell? w _ hx607_1)).trans hx607_1; replace hx607_2 := (HB.out.cell (World.block_lt_of_cell? w _ hx607_2)).trans hx607_2; replace p607 := eq_true p607; replace q607 := eq_true q607) | (go_at_call 57; (with_reducible refine (tollbarref4_Among.calls k2 _ _ l1 ((rd_T53 l0_1 x7_2).f1) false _ ?side1 ?side2 A19.out).mono ?_); (case side1 => repeat (first | exact (Kd.C_below HR1.out (bq1 HB.out GE602.out)) | (with_reducible refine Kd.C_alloc ?_ _) | (with_reducible refine Kd.C_drewN ?_ _) | (with_reducible refine Kd.C_drew ?_))); (case side2 => exact HC1.out); rintro e w' ⟨rfl, ⟨nd, rfl⟩⟩) | ((with_reducible refine gate_builtin (b := .append) (xs := #[.tmp 43, .tmp 45]) rfl ?_); at_builtin; refine Kd.R_append (Kd.int .i64) (w0 := w) w.heap.size rfl (.tmp 43) (.tmp 45) 25 3 (.int .i64 0) 8 rfl Try.underlying25 info3 rfl (by decide) (by omega) u6 x6_2 x7_2 [.int .i64 x7_2] (fun _ => True) (fun _ => False) rfl rfl ?aP (fun _ hk => hk.elim) ?aF ?aO ?aB ?aS ?aL ?_; (case aP => exact rfl); (case aB => exact (bq1 HB.out GE602.out)); (case aF => exact (fun _ _ => trivial)); (case aO => exact (br HO_6.out)); (case aS => exact (below_size (bq1 HB.out GE602.out))); (case aL => have := LMc22.out; omega); intro v610 w24 ho hb hg hat; rw [← Ny609.out] at ho; replace BK602 := ak (blk_grown (bk BK602.out) hg (Kd.R_ne HO_6.out BK602.out (by decide))); replace HB := ak (hb); have HO611 := ak (ho); clear HO_6; clear ho hb hg hat))
           go_roundg k2
           case measure => have := HJ2.out; have := HK2.out; omega
           case rel => exact ⟨(y609), (wrap64 (x7_2 + 1)), (by first | rfl | (simp; done) | (simp [*]; done)), H', ⟨by have := HJ2.out; have := HK2.out; omega⟩, ⟨HO611.out⟩, ⟨BK602.out⟩, ⟨HB.out⟩⟩
          ·
           rw [if_neg c22] at H; exact absurd H (by simp)
        ·
         replace c18 := Bool.eq_false_iff.mpr c18; subst c18
         have H1 : (tollbarref4_Leaving.l0 k2 l1 x6_2 (wrap64 (x7_2 + 1)) a0_0 l0_1) = some (r1, r2) := by rw [if_neg (show ¬ (false = true) by decide)] at H; exact H
         clear H; have H := H1; clear H1; have H' := ak H; clear H; have hcz25_0 := bkat BK602.out 0; have hcz25_1 := bkat BK602.out 1; have hfz25_0 := blk_frozen BK602.out 0; have hfz25_1 := blk_frozen BK602.out 1; have p605 : 0 ≤ (x7_2 : Int) := od; have q605 : x7_2 < (l0_1.length : Int) := od; obtain ⟨ad605, e605, hx605_0, hx605_1, hx605_2⟩ := at_T53 HR0_1.out x7_2 p605 q605; cases e605; replace hx605_0 := (HB.out.cell (World.block_lt_of_cell? w _ hx605_0)).trans hx605_0; replace hx605_1 := (HB.out.cell (World.block_lt_of_cell? w _ hx605_1)).trans hx605_1; replace hx605_2 := (HB.out.cell (World.block_lt_of_cell? w _ hx605_2)).trans hx605_2; replace p605 := eq_true p605; replace q605 := eq_true q605
         go_wp2_with (first | ((with_reducible refine gate_callee (f := 57) rfl ?_); refine gl 31 Try.func57 #[.slice A1 l1.length c1, .int .i64 ((rd_T53 l0_1 x7_2).f0)] ?_; (with_reducible refine (tollbarref4_Among.calls k2 _ _ l1 ((rd_T53 l0_1 x7_2).f0) false _ ?side1 ?side2 A17.out).mono ?_); (case side1 => exact (Kd.C_below HR1.out HB.out)); (case side2 => exact HC1.out); rintro e w' ⟨rfl, ⟨nd, rfl⟩⟩; refine ⟨_, rfl, ?_⟩))
         go_roundg k2
         case measure => have := HJ2.out; have := HK2.out; omega
         case rel => exact ⟨(x6_2), (wrap64 (x7_2 + 1)), (by first | rfl | (simp; done) | (simp [*]; done)), H', ⟨by have := HJ2.out; have := HK2.out; omega⟩, ⟨by (with_reducible repeat (first | apply Kd.R_alloc | apply Kd.R_drewN | apply Kd.R_drew)); exact HO_6.out⟩, ⟨by (with_reducible repeat (first | refine blk_drewN ?_ _ | refine blk_drew ?_ | refine blk_alloc ?_ _)); exact BK602.out⟩, ⟨bq1 HB.out GE602.out⟩⟩
       ·
        rw [if_neg c16] at H; exact absurd H (by simp)
      ·
       rw [if_neg c15] at H; have c15b0 : decide (x7_2 < (l0_1.length : Int)) = false := decide_eq_false c15; clear c15; simp only [Option.some.injEq, Prod.mk.injEq] at H; obtain ⟨rfl, rfl⟩ := H; have hcz26_0 := bkat BK602.out 0; have hcz26_1 := bkat BK602.out 1; have hfz26_0 := blk_frozen BK602.out 0; have hfz26_1 := blk_frozen BK602.out 1
       go_wp2
       go_ret2
       exact ⟨_, by first | rfl | (simp [errW_none, errW_some] <;> rfl) | (simp [*, errW_none, errW_some] <;> rfl), by (with_reducible repeat (first | apply Kd.R_alloc | apply Kd.R_drewN | apply Kd.R_drew)); exact HO_6.out, bq1 HB.out GE602.out⟩
mutual
def tollbarref4_Worth.j0 : Nat → List Int → List Int → Bool → Int → List (S53) → Option (Int × Int)
 | 0, _, _, _, _, _ => none
 | k + 1, x1, x2, x21, xkb, xka => if x21 = true then (some (0, 800)) else ((tollbarref4_Leaving.f k xkb xka x2).bind fun bt615 => (tollbarref4_Worth.l0 k x1 bt615.1 0 0))
def tollbarref4_Worth.l0 : Nat → List Int → List Int → Int → Int → Option (Int × Int)
 | 0, _, _, _, _ => none
 | k + 1, x1, x8, x10, x11 => if x11 < (x8.length : Int) then (if 0 ≤ x11 then (if 0 ≤ (rd x8 x11) then (if (rd x8 x11) < (x1.length : Int) then (tollbarref4_Worth.l0 k x1 x8 (wrap64 (x10 + (rd x1 (rd x8 x11)))) (wrap64 (x11 + 1))) else (none)) else (none)) else (none)) else (some (x10, 0))
end
def tollbarref4_Worth.f (k : Nat) (a0_0 : Int) (l0_1 : List (S53)) (l1 : List Int) (l2 : List Int) : Option (Int × Int) := (tollbarref4_CapsMay.f k a0_0 l0_1 l1).bind fun t613 => (if t613 = true then ((tollbarref4_VertsMay.f k a0_0 l0_1 l2).bind fun t614 => (tollbarref4_Worth.j0 k l1 l2 (!t614) a0_0 l0_1)) else (tollbarref4_Worth.j0 k l1 l2 true a0_0 l0_1))
theorem tollbarref4_Worth.calls (k : Nat) (a0_0 : Int) (A0_1 : Option Addr) (c0_1 : Nat) (l0_1 : List (S53)) (A1 : Option Addr) (c1 : Nat) (l1 : List Int) (A2 : Option Addr) (c2 : Nat) (l2 : List Int) (r1 : Int) (r2 : Int) (w : World) (hr0_1 : Kd.C k53 w A0_1 l0_1.length l0_1) (hc0_1 : l0_1.length ≤ c0_1) (hr1 : Kd.C (Kd.int .i64) w A1 l1.length l1) (hc1 : l1.length ≤ c1) (hr2 : Kd.C (Kd.int .i64) w A2 l2.length l2) (hc2 : l2.length ≤ c2) (h : tollbarref4_Worth.f k a0_0 l0_1 l1 l2 = some (r1, r2)) :
  Calls Try.prog 35 #[.agg #[.int .i64 a0_0, .slice A0_1 l0_1.length c0_1], .slice A1 l1.length c1, .slice A2 l2.length c2] w fun e w' => e = .returned (.tuple #[.int .i64 r1, .int .i64 r2]) ∧ Below w.heap.size w w' := by
 have hu24 := Try.underlying24; have HR0_1 := ak hr0_1; have HC0_1 := ak hc0_1; clear hr0_1 hc0_1; have HR1 := ak hr1; have HC1 := ak hc1; clear hr1 hc1; have HR2 := ak hr2; have HC2 := ak hc2; clear hr2 hc2; have HB := ak (Below.refl w.heap.size w); have H : ((tollbarref4_CapsMay.f k a0_0 l0_1 l1).bind fun t613 => (if t613 = true then ((tollbarref4_VertsMay.f k a0_0 l0_1 l2).bind fun t614 => (tollbarref4_Worth.j0 k l1 l2 (!t614) a0_0 l0_1)) else (tollbarref4_Worth.j0 k l1 l2 true a0_0 l0_1))) = some (r1, r2) := h; clear h; have HC4 := ak H; clear H
 go_enter Try.func35, Try.ntmps35
 go_upto_region 1 with (first | ((with_reducible refine gate_dst (N := 3) rfl ?_); refine box_event ?hg (N := 3) ?hd (cs := #[.int .i64 a0_0, .slice A0_1 l0_1.length c0_1]) (t := 24) ?hr ?_; (case hd => rfl); (case hg => rfl); (case hr => first | (go_simp; done) | (go_simp; rfl)); intro gb612 hg w5 hbox hb; have BK612 := ak (hbox); have GW612 := ak ((by rw [hg]; exact (below_size HB.out) : w.heap.size ≤ gb612)); have GE612 := ak ((by rw [hg]; exact (below_size HB.out) : w.heap.size ≤ gb612)); replace HB := ak (below_step HB.out hb); clear hb hbox hg))
 (try simp only [Act.put, List.setIfInBounds_toArray, List.set_cons_zero, List.set_cons_succ])
 go_cut [21] (fun v21 wc => ∃ (kq : Nat) (x21_3 : Bool), v21 = .bool x21_3 ∧ Aside0 (tollbarref4_Worth.j0 kq l1 l2 x21_3 a0_0 l0_1 = some (r1, r2)) ∧ Aside0 (kq ≤ k) ∧ Aside0 (wc.heap[gb612]? = some (.cells #[.int .i64 a0_0, (.slice A0_1 l0_1.length c0_1)] 24 (0, 0))) ∧ Aside0 (Below w.heap.size w wc))
 case first =>
  have H := HC4.out; clear HC4; replace H := Option.bind_eq_some_iff.mp H; obtain ⟨t613, A60, H⟩ := H; replace H : (if t613 = true then ((tollbarref4_VertsMay.f k a0_0 l0_1 l2).bind fun t614 => (tollbarref4_Worth.j0 k l1 l2 (!t614) a0_0 l0_1)) else (tollbarref4_Worth.j0 k l1 l2 true a0_0 l0_1)) = some (r1, r2) := H; have A6 := ak A60; clear A60
  by_cases c7 : t613 = true
  ·
   subst c7
   have H1 : ((tollbarref4_VertsMay.f k a0_0 l0_1 l2).bind fun t614 => (tollbarref4_Worth.j0 k l1 l2 (!t614) a0_0 l0_1)) = some (r1, r2) := by rw [if_pos rfl] at H; exact H
   clear H; have H := H1; clear H1; replace H := Option.bind_eq_some_iff.mp H; obtain ⟨t614, A80, H⟩ := H; replace H : (tollbarref4_Worth.j0 k l1 l2 (!t614) a0_0 l0_1) = some (r1, r2) := H; have A8 := ak A80; clear A80; have H' := ak H; clear H; have hcz9_0 := bkat BK612.out 0; have hcz9_1 := bkat BK612.out 1; have hfz9_0 := blk_frozen BK612.out 0; have hfz9_1 := blk_frozen BK612.out 1
   go_wp2_with (first | ((with_reducible refine gate_callee (f := 26) rfl ?_); refine gl 14 Try.func26 #[.agg #[.int .i64 a0_0, .slice A0_1 l0_1.length c0_1], .slice A1 l1.length c1] ?_; (with_reducible refine (tollbarref4_CapsMay.calls k a0_0 _ _ l0_1 _ _ l1 true _ ?side1 ?side2 ?side3 ?side4 A6.out).mono ?_); (case side1 => exact (Kd.C_below HR0_1.out HB.out)); (case side2 => exact HC0_1.out); (case side3 => exact (Kd.C_below HR1.out HB.out)); (case side4 => exact HC1.out); rintro e w10 ⟨rfl, hb⟩; refine ⟨_, rfl, ?_⟩; replace BK612 := ak (blk_below BK612.out hb); replace HB := ak (below_step HB.out hb); (try clear hb); (try clear hb2); (try clear hk); (try clear hi); have hcz11_0 := bkat BK612.out 0; have hcz11_1 := bkat BK612.out 1; have hfz11_0 := blk_frozen BK612.out 0; have hfz11_1 := blk_frozen BK612.out 1) | (go_at_call 56; (with_reducible refine (tollbarref4_VertsMay.calls k a0_0 _ _ l0_1 _ _ l2 t614 _ ?side1 ?side2 ?side3 ?side4 A8.out).mono ?_); (case side1 => exact (Kd.C_below HR0_1.out HB.out)); (case side2 => exact HC0_1.out); (case side3 => exact (Kd.C_below HR2.out HB.out)); (case side4 => exact HC2.out); rintro e w12 ⟨rfl, hb⟩; have n0_ := ak (blk_below BK612.out hb); have n1_ := ak (below_step HB.out hb); clear BK612; clear HB; have BK612 := n0_; have HB := n1_; clear n0_ n1_; (try clear hb); (try clear hb2); (try clear hk); (try clear hi)))
   go_meet
   case rel => exact ⟨_, (!t614), (by first | rfl | (simp; done) | (simp [*]; done)), H', ⟨by first | omega | exact Nat.le_refl _⟩, ⟨BK612.out⟩, ⟨HB.out⟩⟩
  ·
   replace c7 := Bool.eq_false_iff.mpr c7; subst c7
   have H1 : (tollbarref4_Worth.j0 k l1 l2 true a0_0 l0_1) = some (r1, r2) := by rw [if_neg (show ¬ (false = true) by decide)] at H; exact H
   clear H; have H := H1; clear H1; have H' := ak H; clear H; have hcz13_0 := bkat BK612.out 0; have hcz13_1 := bkat BK612.out 1; have hfz13_0 := blk_frozen BK612.out 0; have hfz13_1 := blk_frozen BK612.out 1
   go_wp2_with (first | ((with_reducible refine gate_callee (f := 26) rfl ?_); refine gl 14 Try.func26 #[.agg #[.int .i64 a0_0, .slice A0_1 l0_1.length c0_1], .slice A1 l1.length c1] ?_; (with_reducible refine (tollbarref4_CapsMay.calls k a0_0 _ _ l0_1 _ _ l1 false _ ?side1 ?side2 ?side3 ?side4 A6.out).mono ?_); (case side1 => exact (Kd.C_below HR0_1.out HB.out)); (case side2 => exact HC0_1.out); (case side3 => exact (Kd.C_below HR1.out HB.out)); (case side4 => exact HC1.out); rintro e w14 ⟨rfl, hb⟩; refine ⟨_, rfl, ?_⟩; replace BK612 := ak (blk_below BK612.out hb); replace HB := ak (below_step HB.out hb); (try clear hb); (try clear hb2); (try clear hk); (try clear hi)))
   go_meet
   case rel => exact ⟨_, (true), (by first | rfl | (simp; done) | (simp [*]; done)), H', ⟨by first | omega | exact Nat.le_refl _⟩, ⟨BK612.out⟩, ⟨HB.out⟩⟩
 case rest =>
  clear HC4
  repeat (first | clear c1 | clear c2 | clear p2 | clear c3 | clear c7 | clear hcz11_0 | clear hcz11_1 | clear hcz13_0 | clear hcz13_1 | clear hcz9_0 | clear hcz9_1 | clear hfz11_0 | clear hfz11_1 | clear hfz13_0 | clear hfz13_1 | clear hfz9_0 | clear hfz9_1)
  obtain ⟨kq, x21_3, rfl, HA, HJ3, BK612, HB⟩ := hcut; cases kq with
  | zero => exact absurd HA.out (by simp [tollbarref4_Worth.j0])
  | succ kj3 =>
   have H := HA.out; clear HA; simp only [tollbarref4_Worth.j0] at H
   by_cases c15 : x21_3 = true
   ·
    subst c15
    have H1 : (some (0, 800)) = some (r1, r2) := by rw [if_pos rfl] at H; exact H
    clear H; have H := H1; clear H1; simp only [Option.some.injEq, Prod.mk.injEq] at H; obtain ⟨rfl, rfl⟩ := H
    go_wp2
    go_ret2
    exact ⟨by first | rfl | (simp [errW_none, errW_some] <;> rfl) | (simp [*, errW_none, errW_some] <;> rfl), bq1 HB.out GE612.out⟩
   ·
    replace c15 := Bool.eq_false_iff.mpr c15; subst c15
    have H1 : ((tollbarref4_Leaving.f kj3 a0_0 l0_1 l2).bind fun bt615 => (tollbarref4_Worth.l0 kj3 l1 bt615.1 0 0)) = some (r1, r2) := by rw [if_neg (show ¬ (false = true) by decide)] at H; exact H
    clear H; have H := H1; clear H1; replace H := Option.bind_eq_some_iff.mp H; obtain ⟨⟨t615, t618⟩, A160, H⟩ := H; replace H : (tollbarref4_Worth.l0 kj3 l1 t615 0 0) = some (r1, r2) := H; have A16 := ak A160; clear A160; have H' := ak H; clear H; have hcz17_0 := bkat BK612.out 0; have hcz17_1 := bkat BK612.out 1; have hfz17_0 := blk_frozen BK612.out 0; have hfz17_1 := blk_frozen BK612.out 1
    go_wp2_with (first | ((with_reducible refine gate_callee (f := 58) rfl ?_); refine gl 25 Try.func58 #[.agg #[.int .i64 a0_0, .slice A0_1 l0_1.length c0_1], .slice A2 l2.length c2] ?_; (with_reducible refine (tollbarref4_Leaving.calls kj3 a0_0 _ _ l0_1 _ _ l2 t615 t618 _ ?side1 ?side2 ?side3 ?side4 A16.out).mono ?_); (case side1 => exact (Kd.C_below HR0_1.out HB.out)); (case side2 => exact HC0_1.out); (case side3 => exact (Kd.C_below HR2.out HB.out)); (case side4 => exact HC2.out); rintro e w18 ⟨v616, rfl, ho0, hb⟩; refine ⟨_, rfl, ?_⟩; have HO617 := ak (Kd.R_lower ho0 (below_size HB.out)); replace BK612 := ak (blk_below BK612.out hb); replace HB := ak (below_step HB.out hb); (try clear hb); (try clear hb2); (try clear hk); (try clear hi); (try clear ho0)))
    go_loopg [10, 11] kj3 (fun kq v10 v11 w' => ∃ (x10_2 : Int) (x11_2 : Int), v10 = .int .i64 x10_2 ∧ v11 = .int .i64 x11_2 ∧ Aside0 (tollbarref4_Worth.l0 kq l1 t615 x10_2 x11_2 = some (r1, r2)) ∧ Aside0 (kq ≤ kj3) ∧ Aside0 (Kd.R (Kd.int .i64) 3 w' w.heap.size (fun _ => True) v616 t615) ∧ Aside0 (w'.heap[gb612]? = some (.cells #[.int .i64 a0_0, (.slice A0_1 l0_1.length c0_1)] 24 (0, 0))) ∧ Aside0 (Below w.heap.size w w'))
    case atStart => exact ⟨(0), (0), (by first | rfl | (simp; done) | (simp [*]; done)), (by first | rfl | (simp; done) | (simp [*]; done)), H', ⟨Nat.le_refl _⟩, ⟨HO617.out⟩, ⟨BK612.out⟩, ⟨HB.out⟩⟩
    case round =>
     clear H'
     repeat (first | clear c1 | clear c2 | clear p2 | clear c3 | clear c5 | clear c7 | clear c15 | clear hcz11_0 | clear hcz11_1 | clear hcz13_0 | clear hcz13_1 | clear hcz17_0 | clear hcz17_1 | clear hcz9_0 | clear hcz9_1 | clear hfz11_0 | clear hfz11_1 | clear hfz13_0 | clear hfz13_1 | clear hfz17_0 | clear hfz17_1 | clear hfz9_0 | clear hfz9_1)
     obtain ⟨x10_2, x11_2, rfl, rfl, HA, HK2, HO_8, BK612, HB⟩ := hrel; cases gk with
     | zero => exact absurd HA.out (by simp [tollbarref4_Worth.l0])
     | succ k2 =>
      have H := HA.out; clear HA; simp only [tollbarref4_Worth.l0] at H
      by_cases c19 : x11_2 < (t615.length : Int)
      ·
       rw [if_pos c19] at H; have c19b0 : decide (x11_2 < (t615.length : Int)) = true := decide_eq_true c19; clear c19
       by_cases c20 : 0 ≤ x11_2
       ·
        rw [if_pos c20] at H; have c20b0 : decide (0 ≤ x11_2) = true := decide_eq_true c20; clear c20
        by_cases c21 : 0 ≤ (rd t615 x11_2)
        ·
         rw [if_pos c21] at H; have c21b0 : decide (0 ≤ (rd t615 x11_2)) = true := decide_eq_true c21; clear c21
         by_cases c22 : (rd t615 x11_2) < (l1.length : Int)
         ·
          rw [if_pos c22] at H; have c22b0 : decide ((rd t615 x11_2) < (l1.length : Int)) = true := decide_eq_true c22; clear c22; have H' := ak H; clear H; obtain ⟨Ao23, co23, eo23⟩ := Kd.R_slice HO_8.out; subst eo23; have p619 : 0 ≤ (x11_2 : Int) := od; have q619 : x11_2 < (t615.length : Int) := od; obtain ⟨ad619, e619, hx619_0⟩ := Kd.at_int (Kd.R_reads' HO_8.out).2.2 x11_2 p619 q619; cases e619; replace p619 := eq_true p619; replace q619 := eq_true q619; have p620 : 0 ≤ ((rd t615 x11_2) : Int) := od; have q620 : (rd t615 x11_2) < (l1.length : Int) := od; obtain ⟨ad620, e620, hx620_0⟩ := Kd.at_int HR1.out (rd t615 x11_2) p620 q620; cases e620; replace hx620_0 := (HB.out.cell (World.block_lt_of_cell? w _ hx620_0)).trans hx620_0; replace p620 := eq_true p620; replace q620 := eq_true q620
          go_wp2
          go_roundg k2
          case measure => have := HJ3.out; have := HK2.out; omega
          case rel => exact ⟨(wrap64 (x10_2 + (rd l1 (rd t615 x11_2)))), (wrap64 (x11_2 + 1)), (by first | rfl | (simp; done) | (simp [*]; done)), (by first | rfl | (simp; done) | (simp [*]; done)), H', ⟨by have := HJ3.out; have := HK2.out; omega⟩, ⟨HO_8.out⟩, ⟨BK612.out⟩, ⟨HB.out⟩⟩
         ·
          rw [if_neg c22] at H; exact absurd H (by simp)
        ·
         rw [if_neg c21] at H; exact absurd H (by simp)
       ·
        rw [if_neg c20] at H; exact absurd H (by simp)
      ·
       rw [if_neg c19] at H; have c19b0 : decide (x11_2 < (t615.length : Int)) = false := decide_eq_false c19; clear c19; simp only [Option.some.injEq, Prod.mk.injEq] at H; obtain ⟨rfl, rfl⟩ := H; obtain ⟨Ao24, co24, eo24⟩ := Kd.R_slice HO_8.out; subst eo24
       go_wp2
       go_ret2
       exact ⟨by first | rfl | (simp [errW_none, errW_some] <;> rfl) | (simp [*, errW_none, errW_some] <;> rfl), bq1 HB.out GE612.out⟩
def tollbarref4_set.l0 : Nat → Int → List Int → Int → Int → List (S53) → Option (List Int)
  | 0, _, _, _, _, _ => none
  | k + 1, x1, x5, x6, xka, xkb => if x6 < xka then (if 0 ≤ (IntKind.u64.wrap (x6)) then (if (Go.bits .and .i64 (shr .i64 x1 (IntKind.u64.wrap (x6))) 1) = 1 then (if x5.length < 17592186044416 then (tollbarref4_set.l0 k x1 (x5 ++ [x6]) (wrap64 (x6 + 1)) xka xkb) else (none)) else (tollbarref4_set.l0 k x1 x5 (wrap64 (x6 + 1)) xka xkb)) else (none)) else (some x5)
def tollbarref4_set.f (k : Nat) (a0_0 : Int) (l0_1 : List (S53)) (a1 : Int) : Option (List Int) := tollbarref4_set.l0 k a1 ([] : List Int) 0 a0_0 l0_1
theorem tollbarref4_set.calls (k : Nat) (a0_0 : Int) (A0_1 : Option Addr) (c0_1 : Nat) (l0_1 : List (S53)) (a1 : Int) (r : List Int) (w : World) (hr0_1 : Kd.C k53 w A0_1 l0_1.length l0_1) (hc0_1 : l0_1.length ≤ c0_1) (h : tollbarref4_set.f k a0_0 l0_1 a1 = some r) :
    Calls Try.prog 52 #[.agg #[.int .i64 a0_0, .slice A0_1 l0_1.length c0_1], .int .i64 a1] w fun e w' => ∃ v0_ : Value, e = .returned (v0_) ∧ Kd.R (Kd.int .i64) 3 w' w.heap.size (fun _ => True) v0_ r ∧ Below w.heap.size w w' := by
  have hu24 := Try.underlying24; have HR0_1 := ak hr0_1; have HC0_1 := ak hc0_1; clear hr0_1 hc0_1; have HB := ak (Below.refl w.heap.size w); have H : (tollbarref4_set.l0 k a1 ([] : List Int) 0 a0_0 l0_1) = some r := h; clear h; have H' := ak H; clear H
  go_enter Try.func52, Try.ntmps52
  go_wp2_with (first | ((with_reducible refine gate_dst (N := 2) rfl ?_); refine box_event ?hg (N := 2) ?hd (cs := #[.int .i64 a0_0, .slice A0_1 l0_1.length c0_1]) (t := 24) ?hr ?_; (case hd => rfl); (case hg => rfl); (case hr => first | (go_simp; done) | (go_simp; rfl)); intro gb621 hg w3 hbox hb; have BK621 := ak (hbox); have GW621 := ak ((by rw [hg]; exact (below_size HB.out) : w.heap.size ≤ gb621)); have GE621 := ak ((by rw [hg]; exact (below_size HB.out) : w.heap.size ≤ gb621)); replace HB := ak (below_step HB.out hb); clear hb hbox hg))
  go_loopg [5, 6] k (fun kq v5 v6 w' => ∃ (x5_1 : List Int) (x6_1 : Int), v6 = .int .i64 x6_1 ∧ Aside0 (tollbarref4_set.l0 kq a1 x5_1 x6_1 a0_0 l0_1 = some r) ∧ Aside0 (kq ≤ k) ∧ Aside0 (Kd.R (Kd.int .i64) 3 w' w.heap.size (fun _ => True) v5 x5_1) ∧ Aside0 (w'.heap[gb621]? = some (.cells #[.int .i64 a0_0, (.slice A0_1 l0_1.length c0_1)] 24 (0, 0))) ∧ Aside0 (Below w.heap.size w w'))
  case atStart => exact ⟨(([] : List Int)), (0), (by first | rfl | (simp; done) | (simp [*]; done)), H', ⟨Nat.le_refl _⟩, ⟨by first | exact Kd.R_nil _ _ _ _ _ | exact Kd.N_nil _ _ _ _ _ | exact Kd.V_nil _ _ _ _ _ | exact Kd.Q_nil _ _ _ _ _ | exact Kd.S_nil _ _ _ _ _⟩, ⟨BK621.out⟩, ⟨HB.out⟩⟩
  case round =>
    clear H'
    try clear p2
    obtain ⟨x5_1, x6_1, rfl, HA, HK1, HO_5, BK621, HB⟩ := hrel; cases gk with
    | zero => exact absurd HA.out (by simp [tollbarref4_set.l0])
    | succ k1 =>
      have H := HA.out; clear HA; simp only [tollbarref4_set.l0] at H
      by_cases c4 : x6_1 < a0_0
      · rw [if_pos c4] at H
        have c4b0 : decide (x6_1 < a0_0) = true := decide_eq_true c4; clear c4
        obtain ⟨ji5, hji5⟩ : ∃ j_ : Int, (IntKind.u64.wrap (x6_1)) = j_ := ⟨_, rfl⟩
        replace H : (if 0 ≤ (ji5) then (if (Go.bits .and .i64 (shr .i64 a1 (ji5)) 1) = 1 then (if x5_1.length < 17592186044416 then (tollbarref4_set.l0 k1 a1 (x5_1 ++ [x6_1]) (wrap64 (x6_1 + 1)) a0_0 l0_1) else (none)) else (tollbarref4_set.l0 k1 a1 x5_1 (wrap64 (x6_1 + 1)) a0_0 l0_1)) else (none)) = some r := by first | (rw [hji5] at H; exact H) | (simp only [hji5] at H ⊢; exact H)
        by_cases c6 : 0 ≤ (ji5)
        · rw [if_pos c6] at H
          have c6b0 := eq_true c6; have c6b1 : decide (0 ≤ (ji5)) = true := decide_eq_true c6; clear c6
          obtain ⟨ji7, hji7⟩ : ∃ j_ : Int, (shr .i64 a1 (ji5)) = j_ := ⟨_, rfl⟩
          replace H : (if (Go.bits .and .i64 (ji7) 1) = 1 then (if x5_1.length < 17592186044416 then (tollbarref4_set.l0 k1 a1 (x5_1 ++ [x6_1]) (wrap64 (x6_1 + 1)) a0_0 l0_1) else (none)) else (tollbarref4_set.l0 k1 a1 x5_1 (wrap64 (x6_1 + 1)) a0_0 l0_1)) = some r := by first | (rw [hji7] at H; exact H) | (simp only [hji7] at H ⊢; exact H)
          have hji7_ : (a1 / 2 ^ min (ji5).toNat 64) = ji7 := hji7; have hji7z : (ji5) ≤ 64 → (a1 / 2 ^ (ji5).toNat) = ji7 := shr_small hji7
          by_cases c8 : (Go.bits .and .i64 (ji7) 1) = 1
          · rw [if_pos c8] at H
            have c8b0 : ((Go.bits .and .i64 (ji7) 1) == 1) = true := beq_iff_eq.mpr c8; have c8b1 : ((Go.bits .and .i64 (ji7) 1) != 1) = false := bne_eq_false_iff_eq.mpr c8; clear c8
            by_cases c9 : x5_1.length < 17592186044416
            · rw [if_pos c9] at H
              have LMc9 := ak c9; clear c9
              obtain ⟨y622, hy622⟩ : ∃ y_ : List Int, y_ = (x5_1 ++ [x6_1]) := ⟨_, rfl⟩
              replace H : (tollbarref4_set.l0 k1 a1 y622 (wrap64 (x6_1 + 1)) a0_0 l0_1) = some r := by first | (rw [hy622]; with_reducible exact H) | (have H2_ := (Option.bind_some _ _).symm.trans H; rw [hy622]; with_reducible exact H2_) | (have H2_ := (Option.bind_some _ _).symm.trans H; with_reducible exact H2_) | with_reducible exact H | (rw [hy622]; exact H) | exact H
              have Ny622 := ak hy622; clear hy622; have H' := ak H; clear H; have hcz10_0 := bkat BK621.out 0; have hcz10_1 := bkat BK621.out 1; have hfz10_0 := blk_frozen BK621.out 0; have hfz10_1 := blk_frozen BK621.out 1
              go_wp2_with (first | ((with_reducible refine gate_builtin (b := .append) (xs := #[.tmp 19, .tmp 21]) rfl ?_); at_builtin; refine Kd.R_append (Kd.int .i64) (w0 := w) w.heap.size rfl (.tmp 19) (.tmp 21) 25 3 (.int .i64 0) 8 rfl Try.underlying25 info3 rfl (by decide) (by omega) u5 x5_1 x6_1 [.int .i64 x6_1] (fun _ => True) (fun _ => False) rfl rfl ?aP (fun _ hk => hk.elim) ?aF ?aO ?aB ?aS ?aL ?_; (case aP => exact rfl); (case aB => exact HB.out); (case aF => exact (fun _ _ => trivial)); (case aO => exact HO_5.out); (case aS => exact (below_size HB.out)); (case aL => have := LMc9.out; omega); intro v623 w11 ho hb hg hat; rw [← Ny622.out] at ho; replace BK621 := ak (blk_grown BK621.out hg (Kd.R_ne HO_5.out BK621.out (by decide))); replace HB := ak (hb); have HO624 := ak (ho); clear HO_5; clear ho hb hg hat))
              go_roundg k1
              case measure => have := HK1.out; omega
              case rel => exact ⟨(y622), (wrap64 (x6_1 + 1)), (by first | rfl | (simp; done) | (simp [*]; done)), H', ⟨by have := HK1.out; omega⟩, ⟨HO624.out⟩, ⟨BK621.out⟩, ⟨HB.out⟩⟩
            · rw [if_neg c9] at H
              exact absurd H (by simp)
          · rw [if_neg c8] at H
            have c8b0 : ((Go.bits .and .i64 (ji7) 1) == 1) = false := beq_eq_false_iff_ne.mpr c8; have c8b1 : ((Go.bits .and .i64 (ji7) 1) != 1) = true := bne_iff_ne.mpr c8; have H' := ak H; clear H; have hcz12_0 := bkat BK621.out 0; have hcz12_1 := bkat BK621.out 1; have hfz12_0 := blk_frozen BK621.out 0; have hfz12_1 := blk_frozen BK621.out 1
            go_wp2
            go_roundg k1
            case measure => have := HK1.out; omega
            case rel => exact ⟨(x5_1), (wrap64 (x6_1 + 1)), (by first | rfl | (simp; done) | (simp [*]; done)), H', ⟨by have := HK1.out; omega⟩, ⟨HO_5.out⟩, ⟨BK621.out⟩, ⟨HB.out⟩⟩
        · rw [if_neg c6] at H
          exact absurd H (by simp)
      · rw [if_neg c4] at H
        have c4b0 : decide (x6_1 < a0_0) = false := decide_eq_false c4; clear c4; obtain rfl := Option.some.inj H; have hcz13_0 := bkat BK621.out 0; have hcz13_1 := bkat BK621.out 1; have hfz13_0 := blk_frozen BK621.out 0; have hfz13_1 := blk_frozen BK621.out 1
        go_wp2
        go_ret
        exact ⟨_, by first | rfl | (simp [errW_none, errW_some] <;> rfl) | (simp [*, errW_none, errW_some] <;> rfl), by (with_reducible repeat (first | apply Kd.R_alloc | apply Kd.R_drewN | apply Kd.R_drew)); exact HO_5.out, bq1 HB.out GE621.out⟩
mutual
def tollbarref4_Least.l0 : Nat → List Int → Int → Int → Int → Int → Int → List (S53) → Option (Int)
 | 0, _, _, _, _, _, _, _ => none
 | k + 1, x1, x2, x3, x9, x10, xka, xkb => if 0 ≤ (IntKind.u64.wrap (xka)) then (if x10 < (shl .i64 1 (IntKind.u64.wrap (xka))) then (if 0 ≤ (IntKind.u64.wrap (x2)) then (if (Go.bits .and .i64 (shr .i64 x10 (IntKind.u64.wrap (x2))) 1) = 1 then (if 0 ≤ (IntKind.u64.wrap (x3)) then (tollbarref4_Least.j1 k x1 x2 x3 x9 x10 ((Go.bits .and .i64 (shr .i64 x10 (IntKind.u64.wrap (x3))) 1) == 0) xka xkb) else (none)) else (tollbarref4_Least.j1 k x1 x2 x3 x9 x10 false xka xkb)) else (none)) else (some x9)) else (none)
def tollbarref4_Least.j1 : Nat → List Int → Int → Int → Int → Int → Bool → Int → List (S53) → Option (Int)
 | 0, _, _, _, _, _, _, _, _ => none
 | k + 1, x1, x2, x3, x9, x10, x34, xka, xkb => if x34 = true then ((tollbarref4_set.f k xka xkb x10).bind fun t626 => ((tollbarref4_Worth.f k xka xkb x1 t626).bind fun bt629 => (if bt629.1 < x9 then (tollbarref4_Least.l0 k x1 x2 x3 bt629.1 (wrap64 (x10 + 1)) xka xkb) else (tollbarref4_Least.l0 k x1 x2 x3 x9 (wrap64 (x10 + 1)) xka xkb)))) else (tollbarref4_Least.l0 k x1 x2 x3 x9 (wrap64 (x10 + 1)) xka xkb)
end
def tollbarref4_Least.f (k : Nat) (a0_0 : Int) (l0_1 : List (S53)) (l1 : List Int) (a2 : Int) (a3 : Int) : Option (Int) := tollbarref4_Least.l0 k l1 a2 a3 4611686018427387904 0 a0_0 l0_1
def tollbarref4_Least.T6 : Bool × List (List Nat × List Nat) := (true, [([], []), ([], []), ([], []), ([], []), ([2, 3], [2, 3]), ([0, 1, 4, 4], [0, 1, 4]), ([5], [5]), ([6], [6]), ([6], [6]), ([7, 5, 0, 1, 2, 3, 4, 5, 6, 7], [7]), ([8, 9, 0, 1, 2, 3, 4, 5, 6, 7, 8, 9], [8])])
def tollbarref4_Least.B6 : List Nat := [0, 0, 0, 0, 12, 31, 63, 127, 127, 255, 1023]
theorem tollbarref4_Least.tab6 : rtab .any (opsOf Try.f27 6) = tollbarref4_Least.T6 := by kernel_rfl
theorem tollbarref4_Least.bits6 : waitsOk tollbarref4_Least.T6.2 tollbarref4_Least.B6 = true := by kernel_rfl
theorem tollbarref4_Least.calls (k : Nat) (a0_0 : Int) (A0_1 : Option Addr) (c0_1 : Nat) (l0_1 : List (S53)) (A1 : Option Addr) (c1 : Nat) (l1 : List Int) (a2 : Int) (a3 : Int) (r : Int) (w : World) (hr0_1 : Kd.C k53 w A0_1 l0_1.length l0_1) (hc0_1 : l0_1.length ≤ c0_1) (hr1 : Kd.C (Kd.int .i64) w A1 l1.length l1) (hc1 : l1.length ≤ c1) (h : tollbarref4_Least.f k a0_0 l0_1 l1 a2 a3 = some r) :
  Calls Try.prog 27 #[.agg #[.int .i64 a0_0, .slice A0_1 l0_1.length c0_1], .slice A1 l1.length c1, .int .i64 a2, .int .i64 a3] w fun e w' => e = .returned (.int .i64 r) ∧ Below w.heap.size w w' := by
 have hu24 := Try.underlying24; have HR0_1 := ak hr0_1; have HC0_1 := ak hc0_1; clear hr0_1 hc0_1; have HR1 := ak hr1; have HC1 := ak hc1; clear hr1 hc1; have HB := ak (Below.refl w.heap.size w); have H : (tollbarref4_Least.l0 k l1 a2 a3 4611686018427387904 0 a0_0 l0_1) = some r := h; clear h; have H' := ak H; clear H
 go_enter Try.func27, Try.ntmps27
 go_wp2_with (first | ((with_reducible refine gate_dst (N := 4) rfl ?_); refine box_event ?hg (N := 4) ?hd (cs := #[.int .i64 a0_0, .slice A0_1 l0_1.length c0_1]) (t := 24) ?hr ?_; (case hd => rfl); (case hg => rfl); (case hr => first | (go_simp; done) | (go_simp; rfl)); intro gb625 hg w5 hbox hb; have BK625 := ak (hbox); have GW625 := ak ((by rw [hg]; exact (below_size HB.out) : w.heap.size ≤ gb625)); have GE625 := ak ((by rw [hg]; exact (below_size HB.out) : w.heap.size ≤ gb625)); replace HB := ak (below_step HB.out hb); clear hb hbox hg))
 go_loopg [9, 10] k (fun kq v9 v10 w' => ∃ (x9_1 : Int) (x10_1 : Int), v9 = .int .i64 x9_1 ∧ v10 = .int .i64 x10_1 ∧ Aside0 (tollbarref4_Least.l0 kq l1 a2 a3 x9_1 x10_1 a0_0 l0_1 = some r) ∧ Aside0 (kq ≤ k) ∧ Aside0 (w'.heap[gb625]? = some (.cells #[.int .i64 a0_0, (.slice A0_1 l0_1.length c0_1)] 24 (0, 0))) ∧ Aside0 (Below w.heap.size w w'))
 case atStart => exact ⟨(4611686018427387904), (0), (by first | rfl | (simp; done) | (simp [*]; done)), (by first | rfl | (simp; done) | (simp [*]; done)), H', ⟨Nat.le_refl _⟩, ⟨BK625.out⟩, ⟨HB.out⟩⟩
 case round =>
  clear H'
  repeat (first | clear c1 | clear c2 | clear p2)
  obtain ⟨x9_1, x10_1, rfl, rfl, HA, HK1, BK625, HB⟩ := hrel; cases gk with
  | zero => exact absurd HA.out (by simp [tollbarref4_Least.l0])
  | succ k1 =>
   have H := HA.out; clear HA; simp only [tollbarref4_Least.l0] at H
   obtain ⟨ji6, hji6⟩ : ∃ j_ : Int, (IntKind.u64.wrap (a0_0)) = j_ := ⟨_, rfl⟩
   replace H : (if 0 ≤ (ji6) then (if x10_1 < (shl .i64 1 (ji6)) then (if 0 ≤ (IntKind.u64.wrap (a2)) then (if (Go.bits .and .i64 (shr .i64 x10_1 (IntKind.u64.wrap (a2))) 1) = 1 then (if 0 ≤ (IntKind.u64.wrap (a3)) then (tollbarref4_Least.j1 k1 l1 a2 a3 x9_1 x10_1 ((Go.bits .and .i64 (shr .i64 x10_1 (IntKind.u64.wrap (a3))) 1) == 0) a0_0 l0_1) else (none)) else (tollbarref4_Least.j1 k1 l1 a2 a3 x9_1 x10_1 false a0_0 l0_1)) else (none)) else (some x9_1)) else (none)) = some r := by first | (rw [hji6] at H; exact H) | (simp only [hji6] at H ⊢; exact H)
   by_cases c7 : 0 ≤ (ji6)
   ·
    rw [if_pos c7] at H; have c7b0 := eq_true c7; have c7b1 : decide (0 ≤ (ji6)) = true := decide_eq_true c7; clear c7
    obtain ⟨ji8, hji8⟩ : ∃ j_ : Int, (shl .i64 1 (ji6)) = j_ := ⟨_, rfl⟩
    replace H : (if x10_1 < (ji8) then (if 0 ≤ (IntKind.u64.wrap (a2)) then (if (Go.bits .and .i64 (shr .i64 x10_1 (IntKind.u64.wrap (a2))) 1) = 1 then (if 0 ≤ (IntKind.u64.wrap (a3)) then (tollbarref4_Least.j1 k1 l1 a2 a3 x9_1 x10_1 ((Go.bits .and .i64 (shr .i64 x10_1 (IntKind.u64.wrap (a3))) 1) == 0) a0_0 l0_1) else (none)) else (tollbarref4_Least.j1 k1 l1 a2 a3 x9_1 x10_1 false a0_0 l0_1)) else (none)) else (some x9_1)) = some r := by first | (rw [hji8] at H; exact H) | (simp only [hji8] at H ⊢; exact H)
    have hji8_ : (IntKind.i64.wrap (1 * 2 ^ min (ji6).toNat 64)) = ji8 := hji8; have hji8z : (ji6) ≤ 64 → (IntKind.i64.wrap (1 * 2 ^ (ji6).toNat)) = ji8 := shl_small hji8
    have hji8u : (IntKind.i64.wrap (2 ^ min (ji6).toNat 64)) = ji8 := by have h_ := hji8_; rw [Int.one_mul] at h_; exact h_
    have hji8v : (ji6) ≤ 64 → (IntKind.i64.wrap (2 ^ (ji6).toNat)) = ji8 := fun hle_ => by have h_ := hji8z hle_; rw [Int.one_mul] at h_; exact h_
    have hji8y : (wrap64 (1 * 2 ^ min (ji6).toNat 64)) = ji8 := (i64_w _).symm.trans hji8_
    have hji8x : (ji6) ≤ 64 → (wrap64 (1 * 2 ^ (ji6).toNat)) = ji8 := fun h_ => (i64_w _).symm.trans (hji8z h_)
    by_cases c9 : x10_1 < (ji8)
    ·
     rw [if_pos c9] at H; have c9b0 : decide (x10_1 < (ji8)) = true := decide_eq_true c9; clear c9; have HC10 := ak H; clear H; have hcz11_0 := bkat BK625.out 0; have hcz11_1 := bkat BK625.out 1; have hfz11_0 := blk_frozen BK625.out 0; have hfz11_1 := blk_frozen BK625.out 1
     go_upto_region 5 with (fail)
     go_cut [34] (fun v34 wc => ∃ (kq : Nat) (x34_9 : Bool), v34 = .bool x34_9 ∧ Aside0 (tollbarref4_Least.j1 kq l1 a2 a3 x9_1 x10_1 x34_9 a0_0 l0_1 = some r) ∧ Aside0 (kq ≤ k1) ∧ Aside0 (wc.heap[gb625]? = some (.cells #[.int .i64 a0_0, (.slice A0_1 l0_1.length c0_1)] 24 (0, 0))) ∧ Aside0 (Below w.heap.size w wc))
     case first =>
      have H := HC10.out; clear HC10
      obtain ⟨ji12, hji12⟩ : ∃ j_ : Int, (IntKind.u64.wrap (a2)) = j_ := ⟨_, rfl⟩
      replace H : (if 0 ≤ (ji12) then (if (Go.bits .and .i64 (shr .i64 x10_1 (ji12)) 1) = 1 then (if 0 ≤ (IntKind.u64.wrap (a3)) then (tollbarref4_Least.j1 k1 l1 a2 a3 x9_1 x10_1 ((Go.bits .and .i64 (shr .i64 x10_1 (IntKind.u64.wrap (a3))) 1) == 0) a0_0 l0_1) else (none)) else (tollbarref4_Least.j1 k1 l1 a2 a3 x9_1 x10_1 false a0_0 l0_1)) else (none)) = some r := by first | (rw [hji12] at H; exact H) | (simp only [hji12] at H ⊢; exact H)
      by_cases c13 : 0 ≤ (ji12)
      ·
       rw [if_pos c13] at H; have c13b0 := eq_true c13; have c13b1 : decide (0 ≤ (ji12)) = true := decide_eq_true c13; clear c13
       obtain ⟨ji14, hji14⟩ : ∃ j_ : Int, (shr .i64 x10_1 (ji12)) = j_ := ⟨_, rfl⟩
       replace H : (if (Go.bits .and .i64 (ji14) 1) = 1 then (if 0 ≤ (IntKind.u64.wrap (a3)) then (tollbarref4_Least.j1 k1 l1 a2 a3 x9_1 x10_1 ((Go.bits .and .i64 (shr .i64 x10_1 (IntKind.u64.wrap (a3))) 1) == 0) a0_0 l0_1) else (none)) else (tollbarref4_Least.j1 k1 l1 a2 a3 x9_1 x10_1 false a0_0 l0_1)) = some r := by first | (rw [hji14] at H; exact H) | (simp only [hji14] at H ⊢; exact H)
       have hji14_ : (x10_1 / 2 ^ min (ji12).toNat 64) = ji14 := hji14; have hji14z : (ji12) ≤ 64 → (x10_1 / 2 ^ (ji12).toNat) = ji14 := shr_small hji14
       by_cases c15 : (Go.bits .and .i64 (ji14) 1) = 1
       ·
        rw [if_pos c15] at H; have c15b0 : ((Go.bits .and .i64 (ji14) 1) == 1) = true := beq_iff_eq.mpr c15; have c15b1 : ((Go.bits .and .i64 (ji14) 1) != 1) = false := bne_eq_false_iff_eq.mpr c15; clear c15; (first | rw [c15b0] | (simp only [i64_w, i32_w]; rw [c15b0]) | skip)
        obtain ⟨ji16, hji16⟩ : ∃ j_ : Int, (IntKind.u64.wrap (a3)) = j_ := ⟨_, rfl⟩
        replace H : (if 0 ≤ (ji16) then (tollbarref4_Least.j1 k1 l1 a2 a3 x9_1 x10_1 ((Go.bits .and .i64 (shr .i64 x10_1 (ji16)) 1) == 0) a0_0 l0_1) else (none)) = some r := by first | (rw [hji16] at H; exact H) | (simp only [hji16] at H ⊢; exact H)
        by_cases c17 : 0 ≤ (ji16)
        ·
         rw [if_pos c17] at H; have c17b0 := eq_true c17; have c17b1 : decide (0 ≤ (ji16)) = true := decide_eq_true c17; clear c17
         obtain ⟨ji18, hji18⟩ : ∃ j_ : Int, (shr .i64 x10_1 (ji16)) = j_ := ⟨_, rfl⟩
         replace H : (tollbarref4_Least.j1 k1 l1 a2 a3 x9_1 x10_1 ((Go.bits .and .i64 (ji18) 1) == 0) a0_0 l0_1) = some r := by first | (rw [hji18] at H; exact H) | (simp only [hji18] at H ⊢; exact H)
         have hji18_ : (x10_1 / 2 ^ min (ji16).toNat 64) = ji18 := hji18; have hji18z : (ji16) ≤ 64 → (x10_1 / 2 ^ (ji16).toNat) = ji18 := shr_small hji18; have H' := ak H; clear H
         go_wp2
         go_meet
         case rel => exact ⟨_, (((Go.bits .and .i64 (ji18) 1) == 0)), (by first | rfl | (simp; done) | (simp only [← hji18] <;> (first | rfl | simp)) | (simp [*]; done)), H', ⟨by have := HK1.out; first | omega | exact Nat.le_refl _⟩, ⟨BK625.out⟩, ⟨HB.out⟩⟩
        ·
         rw [if_neg c17] at H; exact absurd H (by simp)
       ·
        rw [if_neg c15] at H; have c15b0 : ((Go.bits .and .i64 (ji14) 1) == 1) = false := beq_eq_false_iff_ne.mpr c15; have c15b1 : ((Go.bits .and .i64 (ji14) 1) != 1) = true := bne_iff_ne.mpr c15; (first | rw [c15b0] | (simp only [i64_w, i32_w]; rw [c15b0]) | skip); have H' := ak H; clear H
        go_wp2
        go_meet
        case rel => exact ⟨_, (false), (by first | rfl | (simp; done) | (simp [*]; done)), H', ⟨by have := HK1.out; first | omega | exact Nat.le_refl _⟩, ⟨BK625.out⟩, ⟨HB.out⟩⟩
      ·
       rw [if_neg c13] at H; exact absurd H (by simp)
     case rest =>
      clear HC10
      repeat (first | clear c1 | clear c2 | clear p2 | clear p6 | clear c7 | clear c7b0 | clear c7b1 | clear c9 | clear c9b0 | clear c13 | clear c13b0 | clear c13b1 | clear c15 | clear c15b0 | clear c15b1 | clear c17 | clear c17b0 | clear c17b1 | clear hcz11_0 | clear hcz11_1 | clear hfz11_0 | clear hfz11_1)
      obtain ⟨kq, x34_9, rfl, HA, HJ9, BK625, HB⟩ := hcut; cases kq with
      | zero => exact absurd HA.out (by simp [tollbarref4_Least.j1])
      | succ kj9 =>
       have H := HA.out; clear HA; simp only [tollbarref4_Least.j1] at H
       by_cases c19 : x34_9 = true
       ·
        subst c19
        have H1 : ((tollbarref4_set.f kj9 a0_0 l0_1 x10_1).bind fun t626 => ((tollbarref4_Worth.f kj9 a0_0 l0_1 l1 t626).bind fun bt629 => (if bt629.1 < x9_1 then (tollbarref4_Least.l0 kj9 l1 a2 a3 bt629.1 (wrap64 (x10_1 + 1)) a0_0 l0_1) else (tollbarref4_Least.l0 kj9 l1 a2 a3 x9_1 (wrap64 (x10_1 + 1)) a0_0 l0_1)))) = some r := by rw [if_pos rfl] at H; exact H
        clear H; have H := H1; clear H1; replace H := Option.bind_eq_some_iff.mp H; obtain ⟨t626, A200, H⟩ := H; replace H : ((tollbarref4_Worth.f kj9 a0_0 l0_1 l1 t626).bind fun bt629 => (if bt629.1 < x9_1 then (tollbarref4_Least.l0 kj9 l1 a2 a3 bt629.1 (wrap64 (x10_1 + 1)) a0_0 l0_1) else (tollbarref4_Least.l0 kj9 l1 a2 a3 x9_1 (wrap64 (x10_1 + 1)) a0_0 l0_1))) = some r := H; have A20 := ak A200; clear A200; replace H := Option.bind_eq_some_iff.mp H; obtain ⟨⟨t629, t630⟩, A210, H⟩ := H; replace H : (if t629 < x9_1 then (tollbarref4_Least.l0 kj9 l1 a2 a3 t629 (wrap64 (x10_1 + 1)) a0_0 l0_1) else (tollbarref4_Least.l0 kj9 l1 a2 a3 x9_1 (wrap64 (x10_1 + 1)) a0_0 l0_1)) = some r := H; have A21 := ak A210; clear A210
        by_cases c22 : t629 < x9_1
        ·
         rw [if_pos c22] at H; have c22b0 : decide (t629 < x9_1) = true := decide_eq_true c22; clear c22; have H' := ak H; clear H
         try go_wp2
         replace BK625 := ak (blk_drew BK625.out); replace HB := ak (below_drew1 HB.out); refine start_ (n := 11) (S := fun w' => w'.cell? ⟨gb625, 0, none⟩ = some (.int .i64 a0_0) ∧ w'.cell? ⟨gb625, 1, none⟩ = some (.slice A0_1 l0_1.length c0_1)) (ds := []) (mk 11 0) (by kernel_rfl) rfl (by kernel_rfl) ⟨(blk_cell BK625.out 0).trans rfl, (blk_cell BK625.out 1).trans rfl⟩ (fun hHeld => ?_); refine with_tabW tollbarref4_Least.tab6 tollbarref4_Least.bits6 (fun HT_ HW_ => ?_); generalize wc.drew = w23 at BK625 HB hHeld ⊢; refine pu 1 37 (mk 11 2) HT_ ?_; refine pu 3 39 (mk 11 10) HT_ ?_; refine ta 0 36 (mk 11 11) rfl rfl HT_ HW_ hHeld (Or.inl ⟨by rfl, by rintro w' ⟨s0, s1⟩; go_simp; with_reducible rfl⟩) ?_; refine ta 2 38 (mk 11 15) rfl rfl HT_ HW_ hHeld (Or.inl ⟨by rfl, by rintro w' ⟨s0, s1⟩; go_simp; with_reducible rfl⟩) ?_; refine one_ (i := 4) (N := some 40) (mk 11 31) rfl rfl (one_of HT_.out (by kernel_rfl)) (by decide) (fun K hK => ?_); refine gs Try.func52 #[.agg #[.int .i64 a0_0, .slice A0_1 l0_1.length c0_1], .int .i64 x10_1] ?_
         with_reducible refine (tollbarref4_set.calls kj9 a0_0 _ _ l0_1 x10_1 t626 _ ?side1 ?side2 A20.out).mono ?_
         (case side1 => exact (Kd.C_below HR0_1.out HB.out)); (case side2 => exact HC0_1.out); rintro e w24 ⟨v627, rfl, ho0, hb⟩; refine ⟨_, rfl, ?_⟩; have HO628 := ak (Kd.R_lower ho0 (below_size HB.out)); replace BK625 := ak (blk_below BK625.out hb); replace HB := ak (below_step HB.out hb); (try clear hb); (try clear hb2); (try clear hk); (try clear hi); (try clear ho0); obtain ⟨Ao25, co25, eo25⟩ := Kd.R_slice HO628.out; (first | subst eo25 | (injection eo25 with f1_ f2_ f3_; have f4_ := f1_.symm; have f5_ := f3_.symm; clear f1_ f2_ f3_; subst f4_; subst f5_)); refine hK.out _ _ ⟨(blk_cell BK625.out 0).trans rfl, (blk_cell BK625.out 1).trans rfl⟩ (fun hHeld => ?_); clear hK K; refine no ?_; refine one_ (i := 5) (N := some 41) (mk 11 63) rfl rfl (one_of HT_.out (by kernel_rfl)) (by decide) (fun K hK => ?_); refine gs Try.func35 #[.agg #[.int .i64 a0_0, .slice A0_1 l0_1.length c0_1], .slice A1 l1.length c1, .slice Ao25 t626.length co25] ?_
         with_reducible refine (tollbarref4_Worth.calls kj9 a0_0 _ _ l0_1 _ _ l1 _ _ t626 t629 t630 _ ?side1 ?side2 ?side3 ?side4 ?side5 ?side6 A21.out).mono ?_
         (case side1 => exact (Kd.C_below HR0_1.out HB.out)); (case side2 => exact HC0_1.out); (case side3 => exact (Kd.C_below HR1.out HB.out)); (case side4 => exact HC1.out); (case side5 => exact (Kd.R_reads' HO628.out).2.2); (case side6 => exact (Kd.R_reads' HO628.out).2.1); rintro e w26 ⟨rfl, hb⟩; refine ⟨_, rfl, ?_⟩; replace HO628 := ak (Kd.R_below HO628.out hb); replace BK625 := ak (blk_below BK625.out hb); replace HB := ak (below_step HB.out hb); (try clear hb); (try clear hb2); (try clear hk); (try clear hi); refine hK.out _ _ ⟨(blk_cell BK625.out 0).trans rfl, (blk_cell BK625.out 1).trans rfl⟩ (fun hHeld => ?_); clear hK K; refine no ?_; refine pu 6 35 (mk 11 127) HT_ ?_; refine pu 7 42 (mk 11 255) HT_ ?_; refine pu 8 43 (mk 11 511) HT_ ?_; refine pu 9 11 (mk 11 1023) HT_ ?_; refine pu 10 12 (mk 11 2047) HT_ ?_; refine done_ (done_of HT_.out (by kernel_rfl)) ?_
         try go_wp2
         go_roundg kj9
         case measure => have := HK1.out; have := HJ9.out; omega
         case rel => exact ⟨(t629), (wrap64 (x10_1 + 1)), (by first | rfl | (simp; done) | (simp [*]; done)), (by first | rfl | (simp; done) | (simp [*]; done)), H', ⟨by have := HK1.out; have := HJ9.out; omega⟩, ⟨BK625.out⟩, ⟨HB.out⟩⟩
        ·
         rw [if_neg c22] at H; have c22b0 : decide (t629 < x9_1) = false := decide_eq_false c22; clear c22; have H' := ak H; clear H
         try go_wp2
         replace BK625 := ak (blk_drew BK625.out); replace HB := ak (below_drew1 HB.out); refine start_ (n := 11) (S := fun w' => w'.cell? ⟨gb625, 0, none⟩ = some (.int .i64 a0_0) ∧ w'.cell? ⟨gb625, 1, none⟩ = some (.slice A0_1 l0_1.length c0_1)) (ds := []) (mk 11 0) (by kernel_rfl) rfl (by kernel_rfl) ⟨(blk_cell BK625.out 0).trans rfl, (blk_cell BK625.out 1).trans rfl⟩ (fun hHeld => ?_); refine with_tabW tollbarref4_Least.tab6 tollbarref4_Least.bits6 (fun HT_ HW_ => ?_); generalize wc.drew = w27 at BK625 HB hHeld ⊢; refine pu 1 37 (mk 11 2) HT_ ?_; refine pu 3 39 (mk 11 10) HT_ ?_; refine ta 0 36 (mk 11 11) rfl rfl HT_ HW_ hHeld (Or.inl ⟨by rfl, by rintro w' ⟨s0, s1⟩; go_simp; with_reducible rfl⟩) ?_; refine ta 2 38 (mk 11 15) rfl rfl HT_ HW_ hHeld (Or.inl ⟨by rfl, by rintro w' ⟨s0, s1⟩; go_simp; with_reducible rfl⟩) ?_; refine one_ (i := 4) (N := some 40) (mk 11 31) rfl rfl (one_of HT_.out (by kernel_rfl)) (by decide) (fun K hK => ?_); refine gs Try.func52 #[.agg #[.int .i64 a0_0, .slice A0_1 l0_1.length c0_1], .int .i64 x10_1] ?_
         with_reducible refine (tollbarref4_set.calls kj9 a0_0 _ _ l0_1 x10_1 t626 _ ?side1 ?side2 A20.out).mono ?_
         (case side1 => exact (Kd.C_below HR0_1.out HB.out)); (case side2 => exact HC0_1.out); rintro e w28 ⟨v627, rfl, ho0, hb⟩; refine ⟨_, rfl, ?_⟩; have HO628 := ak (Kd.R_lower ho0 (below_size HB.out)); replace BK625 := ak (blk_below BK625.out hb); replace HB := ak (below_step HB.out hb); (try clear hb); (try clear hb2); (try clear hk); (try clear hi); (try clear ho0); obtain ⟨Ao29, co29, eo29⟩ := Kd.R_slice HO628.out; (first | subst eo29 | (injection eo29 with f1_ f2_ f3_; have f4_ := f1_.symm; have f5_ := f3_.symm; clear f1_ f2_ f3_; subst f4_; subst f5_)); refine hK.out _ _ ⟨(blk_cell BK625.out 0).trans rfl, (blk_cell BK625.out 1).trans rfl⟩ (fun hHeld => ?_); clear hK K; refine no ?_; refine one_ (i := 5) (N := some 41) (mk 11 63) rfl rfl (one_of HT_.out (by kernel_rfl)) (by decide) (fun K hK => ?_); refine gs Try.func35 #[.agg #[.int .i64 a0_0, .slice A0_1 l0_1.length c0_1], .slice A1 l1.length c1, .slice Ao29 t626.length co29] ?_
         with_reducible refine (tollbarref4_Worth.calls kj9 a0_0 _ _ l0_1 _ _ l1 _ _ t626 t629 t630 _ ?side1 ?side2 ?side3 ?side4 ?side5 ?side6 A21.out).mono ?_
         (case side1 => exact (Kd.C_below HR0_1.out HB.out)); (case side2 => exact HC0_1.out); (case side3 => exact (Kd.C_below HR1.out HB.out)); (case side4 => exact HC1.out); (case side5 => exact (Kd.R_reads' HO628.out).2.2); (case side6 => exact (Kd.R_reads' HO628.out).2.1); rintro e w30 ⟨rfl, hb⟩; refine ⟨_, rfl, ?_⟩; replace HO628 := ak (Kd.R_below HO628.out hb); replace BK625 := ak (blk_below BK625.out hb); replace HB := ak (below_step HB.out hb); (try clear hb); (try clear hb2); (try clear hk); (try clear hi); refine hK.out _ _ ⟨(blk_cell BK625.out 0).trans rfl, (blk_cell BK625.out 1).trans rfl⟩ (fun hHeld => ?_); clear hK K; refine no ?_; refine pu 6 35 (mk 11 127) HT_ ?_; refine pu 7 42 (mk 11 255) HT_ ?_; refine pu 8 43 (mk 11 511) HT_ ?_; refine pu 9 11 (mk 11 1023) HT_ ?_; refine pu 10 12 (mk 11 2047) HT_ ?_; refine done_ (done_of HT_.out (by kernel_rfl)) ?_
         try go_wp2
         go_roundg kj9
         case measure => have := HK1.out; have := HJ9.out; omega
         case rel => exact ⟨(x9_1), (wrap64 (x10_1 + 1)), (by first | rfl | (simp; done) | (simp [*]; done)), (by first | rfl | (simp; done) | (simp [*]; done)), H', ⟨by have := HK1.out; have := HJ9.out; omega⟩, ⟨BK625.out⟩, ⟨HB.out⟩⟩
       ·
        replace c19 := Bool.eq_false_iff.mpr c19; subst c19
        have H1 : (tollbarref4_Least.l0 kj9 l1 a2 a3 x9_1 (wrap64 (x10_1 + 1)) a0_0 l0_1) = some r := by rw [if_neg (show ¬ (false = true) by decide)] at H; exact H
        clear H; have H := H1; clear H1; have H' := ak H; clear H
        go_wp2
        go_roundg kj9
        case measure => have := HK1.out; have := HJ9.out; omega
        case rel => exact ⟨(x9_1), (wrap64 (x10_1 + 1)), (by first | rfl | (simp; done) | (simp [*]; done)), (by first | rfl | (simp; done) | (simp [*]; done)), H', ⟨by have := HK1.out; have := HJ9.out; omega⟩, ⟨BK625.out⟩, ⟨HB.out⟩⟩
    ·
     rw [if_neg c9] at H; have c9b0 : decide (x10_1 < (ji8)) = false := decide_eq_false c9; clear c9; obtain rfl := Option.some.inj H; have hcz31_0 := bkat BK625.out 0; have hcz31_1 := bkat BK625.out 1; have hfz31_0 := blk_frozen BK625.out 0; have hfz31_1 := blk_frozen BK625.out 1
     go_wp2
     go_ret
     exact ⟨by first | rfl | (simp [errW_none, errW_some] <;> rfl) | (simp only [← hji6, ← hji8]; first | rfl | (simp [errW_none, errW_some] <;> rfl)) | (simp [*, errW_none, errW_some] <;> rfl), bq1 HB.out GE625.out⟩
   ·
    rw [if_neg c7] at H; exact absurd H (by simp)
mutual
def push_Push.j0 : Nat → List Int → Int → Int → Int → Bool → Int → List (S53) → Option (List Int × Int × Int)
 | 0, _, _, _, _, _, _, _ => none
 | k + 1, x1, x2, x3, x4, x43, xkb, xka => if x43 = true then (some (([] : List Int), 0, 1200)) else (if 0 ≤ (x1.length : Int) then (if ((x1.length : Int) : Int).toNat ≤ 35184372088832 then (push_Push.l0 k x1 x2 x3 x4 (List.replicate ((x1.length : Int) : Int).toNat 0) 0 xkb xka) else (none)) else (none))
def push_Push.l0 : Nat → List Int → Int → Int → Int → List Int → Int → Int → List (S53) → Option (List Int × Int × Int)
 | 0, _, _, _, _, _, _, _, _ => none
 | k + 1, x1, x2, x3, x4, x13, x14, xkb, xka => if x14 < x4 then ((block_Block.f k xkb xka x1 x13 x2 x3 (wrap64 (x4 - x14))).bind fun bt675 => (if bt675.2.2 = 0 then (if bt675.2.1 = 0 then (some (x13, x14, 0)) else (push_Push.l0 k x1 x2 x3 x4 bt675.1 (wrap64 (x14 + bt675.2.1)) xkb xka)) else (some (x13, x14, 0)))) else (some (x13, x14, 0))
end
def push_Push.f (k : Nat) (a0_0 : Int) (l0_1 : List (S53)) (l1 : List Int) (a2 : Int) (a3 : Int) (a4 : Int) : Option (List Int × Int × Int) := (graph_Takes.f k a0_0 l0_1 l1).bind fun t668 => (if t668 = true then ((graph_Has.f a0_0 l0_1 a2).bind fun t669 => (if t669 = true then ((graph_Has.f a0_0 l0_1 a3).bind fun t670 => (if t670 = true then (if a2 = a3 then (push_Push.j0 k l1 a2 a3 a4 true a0_0 l0_1) else ((rate_Is.f a4).bind fun t671 => (push_Push.j0 k l1 a2 a3 a4 (!t671) a0_0 l0_1))) else (push_Push.j0 k l1 a2 a3 a4 true a0_0 l0_1))) else (push_Push.j0 k l1 a2 a3 a4 true a0_0 l0_1))) else (push_Push.j0 k l1 a2 a3 a4 true a0_0 l0_1))
theorem push_Push.calls (k : Nat) (a0_0 : Int) (A0_1 : Option Addr) (c0_1 : Nat) (l0_1 : List (S53)) (A1 : Option Addr) (c1 : Nat) (l1 : List Int) (a2 : Int) (a3 : Int) (a4 : Int) (r1 : List Int) (r2 : Int) (r3 : Int) (w : World) (hr0_1 : Kd.C k53 w A0_1 l0_1.length l0_1) (hc0_1 : l0_1.length ≤ c0_1) (hr1 : Kd.C (Kd.int .i64) w A1 l1.length l1) (hc1 : l1.length ≤ c1) (h : push_Push.f k a0_0 l0_1 l1 a2 a3 a4 = some (r1, r2, r3)) :
  Calls Try.prog 29 #[.agg #[.int .i64 a0_0, .slice A0_1 l0_1.length c0_1], .slice A1 l1.length c1, .int .i64 a2, .int .i64 a3, .int .i64 a4] w fun e w' => ∃ v0_ : Value, e = .returned (.tuple #[v0_, .int .i64 r2, .int .i64 r3]) ∧ Kd.R (Kd.int .i64) 3 w' w.heap.size (fun _ => True) v0_ r1 ∧ Below w.heap.size w w' := by
 have hu24 := Try.underlying24; have HR0_1 := ak hr0_1; have HC0_1 := ak hc0_1; clear hr0_1 hc0_1; have HR1 := ak hr1; have HC1 := ak hc1; clear hr1 hc1; have HB := ak (Below.refl w.heap.size w); have H : ((graph_Takes.f k a0_0 l0_1 l1).bind fun t668 => (if t668 = true then ((graph_Has.f a0_0 l0_1 a2).bind fun t669 => (if t669 = true then ((graph_Has.f a0_0 l0_1 a3).bind fun t670 => (if t670 = true then (if a2 = a3 then (push_Push.j0 k l1 a2 a3 a4 true a0_0 l0_1) else ((rate_Is.f a4).bind fun t671 => (push_Push.j0 k l1 a2 a3 a4 (!t671) a0_0 l0_1))) else (push_Push.j0 k l1 a2 a3 a4 true a0_0 l0_1))) else (push_Push.j0 k l1 a2 a3 a4 true a0_0 l0_1))) else (push_Push.j0 k l1 a2 a3 a4 true a0_0 l0_1))) = some (r1, r2, r3) := h; clear h; have HC6 := ak H; clear H
 go_enter Try.func29, Try.ntmps29
 go_upto_region 1 with (first | ((with_reducible refine gate_dst (N := 5) rfl ?_); refine box_event ?hg (N := 5) ?hd (cs := #[.int .i64 a0_0, .slice A0_1 l0_1.length c0_1]) (t := 24) ?hr ?_; (case hd => rfl); (case hg => rfl); (case hr => first | (go_simp; done) | (go_simp; rfl)); intro gb667 hg w7 hbox hb; have BK667 := ak (hbox); have GW667 := ak ((by rw [hg]; exact (below_size HB.out) : w.heap.size ≤ gb667)); have GE667 := ak ((by rw [hg]; exact (below_size HB.out) : w.heap.size ≤ gb667)); replace HB := ak (below_step HB.out hb); clear hb hbox hg))
 (try simp only [Act.put, List.setIfInBounds_toArray, List.set_cons_zero, List.set_cons_succ])
 go_cut [43] (fun v43 wc => ∃ (kq : Nat) (x43_5 : Bool), v43 = .bool x43_5 ∧ Aside0 (push_Push.j0 kq l1 a2 a3 a4 x43_5 a0_0 l0_1 = some (r1, r2, r3)) ∧ Aside0 (kq ≤ k) ∧ Aside0 (wc.heap[gb667]? = some (.cells #[.int .i64 a0_0, (.slice A0_1 l0_1.length c0_1)] 24 (0, 0))) ∧ Aside0 (Below w.heap.size w wc))
 case first =>
  have H := HC6.out; clear HC6; replace H := Option.bind_eq_some_iff.mp H; obtain ⟨t668, A80, H⟩ := H; replace H : (if t668 = true then ((graph_Has.f a0_0 l0_1 a2).bind fun t669 => (if t669 = true then ((graph_Has.f a0_0 l0_1 a3).bind fun t670 => (if t670 = true then (if a2 = a3 then (push_Push.j0 k l1 a2 a3 a4 true a0_0 l0_1) else ((rate_Is.f a4).bind fun t671 => (push_Push.j0 k l1 a2 a3 a4 (!t671) a0_0 l0_1))) else (push_Push.j0 k l1 a2 a3 a4 true a0_0 l0_1))) else (push_Push.j0 k l1 a2 a3 a4 true a0_0 l0_1))) else (push_Push.j0 k l1 a2 a3 a4 true a0_0 l0_1)) = some (r1, r2, r3) := H; have A8 := ak A80; clear A80
  by_cases c9 : t668 = true
  ·
   subst c9
   have H1 : ((graph_Has.f a0_0 l0_1 a2).bind fun t669 => (if t669 = true then ((graph_Has.f a0_0 l0_1 a3).bind fun t670 => (if t670 = true then (if a2 = a3 then (push_Push.j0 k l1 a2 a3 a4 true a0_0 l0_1) else ((rate_Is.f a4).bind fun t671 => (push_Push.j0 k l1 a2 a3 a4 (!t671) a0_0 l0_1))) else (push_Push.j0 k l1 a2 a3 a4 true a0_0 l0_1))) else (push_Push.j0 k l1 a2 a3 a4 true a0_0 l0_1))) = some (r1, r2, r3) := by rw [if_pos rfl] at H; exact H
   clear H; have H := H1; clear H1; replace H := Option.bind_eq_some_iff.mp H; obtain ⟨t669, A100, H⟩ := H; replace H : (if t669 = true then ((graph_Has.f a0_0 l0_1 a3).bind fun t670 => (if t670 = true then (if a2 = a3 then (push_Push.j0 k l1 a2 a3 a4 true a0_0 l0_1) else ((rate_Is.f a4).bind fun t671 => (push_Push.j0 k l1 a2 a3 a4 (!t671) a0_0 l0_1))) else (push_Push.j0 k l1 a2 a3 a4 true a0_0 l0_1))) else (push_Push.j0 k l1 a2 a3 a4 true a0_0 l0_1)) = some (r1, r2, r3) := H; have A10 := ak A100; clear A100
   by_cases c11 : t669 = true
   ·
    subst c11
    have H1 : ((graph_Has.f a0_0 l0_1 a3).bind fun t670 => (if t670 = true then (if a2 = a3 then (push_Push.j0 k l1 a2 a3 a4 true a0_0 l0_1) else ((rate_Is.f a4).bind fun t671 => (push_Push.j0 k l1 a2 a3 a4 (!t671) a0_0 l0_1))) else (push_Push.j0 k l1 a2 a3 a4 true a0_0 l0_1))) = some (r1, r2, r3) := by rw [if_pos rfl] at H; exact H
    clear H; have H := H1; clear H1; replace H := Option.bind_eq_some_iff.mp H; obtain ⟨t670, A120, H⟩ := H; replace H : (if t670 = true then (if a2 = a3 then (push_Push.j0 k l1 a2 a3 a4 true a0_0 l0_1) else ((rate_Is.f a4).bind fun t671 => (push_Push.j0 k l1 a2 a3 a4 (!t671) a0_0 l0_1))) else (push_Push.j0 k l1 a2 a3 a4 true a0_0 l0_1)) = some (r1, r2, r3) := H; have A12 := ak A120; clear A120
    by_cases c13 : t670 = true
    ·
     subst c13
     have H1 : (if a2 = a3 then (push_Push.j0 k l1 a2 a3 a4 true a0_0 l0_1) else ((rate_Is.f a4).bind fun t671 => (push_Push.j0 k l1 a2 a3 a4 (!t671) a0_0 l0_1))) = some (r1, r2, r3) := by rw [if_pos rfl] at H; exact H
     clear H; have H := H1; clear H1
     by_cases c14 : a2 = a3
     ·
      rw [if_pos c14] at H; have c14b0 : (a2 == a3) = true := beq_iff_eq.mpr c14; have c14b1 : (a2 != a3) = false := bne_eq_false_iff_eq.mpr c14; clear c14; (first | rw [c14b0] | (simp only [i64_w, i32_w]; rw [c14b0]) | skip); have H' := ak H; clear H; have hcz15_0 := bkat BK667.out 0; have hcz15_1 := bkat BK667.out 1; have hfz15_0 := blk_frozen BK667.out 0; have hfz15_1 := blk_frozen BK667.out 1
      go_wp2_with (first | ((with_reducible refine gate_callee (f := 53) rfl ?_); refine gl 20 Try.func53 #[.agg #[.int .i64 a0_0, .slice A0_1 l0_1.length c0_1], .slice A1 l1.length c1] ?_; (with_reducible refine (graph_Takes.calls k a0_0 _ _ l0_1 _ _ l1 true _ ?side1 ?side2 ?side3 ?side4 A8.out).mono ?_); (case side1 => exact (Kd.C_below HR0_1.out HB.out)); (case side2 => exact HC0_1.out); (case side3 => exact (Kd.C_below HR1.out HB.out)); (case side4 => exact HC1.out); rintro e w16 ⟨rfl, hb⟩; refine ⟨_, rfl, ?_⟩; replace BK667 := ak (blk_below BK667.out hb); replace HB := ak (below_step HB.out hb); (try clear hb); (try clear hb2); (try clear hk); (try clear hi); have hcz17_0 := bkat BK667.out 0; have hcz17_1 := bkat BK667.out 1; have hfz17_0 := blk_frozen BK667.out 0; have hfz17_1 := blk_frozen BK667.out 1) | (go_at_call 54; (with_reducible refine (graph_Has.calls a0_0 _ _ l0_1 a2 true _ ?side1 ?side2 A10.out).mono ?_); (case side1 => exact (Kd.C_below HR0_1.out HB.out)); (case side2 => exact HC0_1.out); rintro e w18 ⟨rfl, hb⟩; have n0_ := ak (blk_below BK667.out hb); have n1_ := ak (below_step HB.out hb); clear BK667; clear HB; have BK667 := n0_; have HB := n1_; clear n0_ n1_; (try clear hb); (try clear hb2); (try clear hk); (try clear hi); have hcz19_0 := bkat BK667.out 0; have hcz19_1 := bkat BK667.out 1; have hfz19_0 := blk_frozen BK667.out 0; have hfz19_1 := blk_frozen BK667.out 1) | (go_at_call 54; (with_reducible refine (graph_Has.calls a0_0 _ _ l0_1 a3 true _ ?side1 ?side2 A12.out).mono ?_); (case side1 => exact (Kd.C_below HR0_1.out HB.out)); (case side2 => exact HC0_1.out); rintro e w20 ⟨rfl, hb⟩; have n0_ := ak (blk_below BK667.out hb); have n1_ := ak (below_step HB.out hb); clear BK667; clear HB; have BK667 := n0_; have HB := n1_; clear n0_ n1_; (try clear hb); (try clear hb2); (try clear hk); (try clear hi)))
      go_meet
      case rel => exact ⟨_, (true), (by first | rfl | (simp; done) | (simp [*]; done)), H', ⟨by first | omega | exact Nat.le_refl _⟩, ⟨BK667.out⟩, ⟨HB.out⟩⟩
     ·
      rw [if_neg c14] at H; have c14b0 : (a2 == a3) = false := beq_eq_false_iff_ne.mpr c14; have c14b1 : (a2 != a3) = true := bne_iff_ne.mpr c14; (first | rw [c14b0] | (simp only [i64_w, i32_w]; rw [c14b0]) | skip); replace H := Option.bind_eq_some_iff.mp H; obtain ⟨t671, A210, H⟩ := H; replace H : (push_Push.j0 k l1 a2 a3 a4 (!t671) a0_0 l0_1) = some (r1, r2, r3) := H; have A21 := ak A210; clear A210; have H' := ak H; clear H; have hcz22_0 := bkat BK667.out 0; have hcz22_1 := bkat BK667.out 1; have hfz22_0 := blk_frozen BK667.out 0; have hfz22_1 := blk_frozen BK667.out 1
      go_wp2_with (first | ((with_reducible refine gate_callee (f := 53) rfl ?_); refine gl 20 Try.func53 #[.agg #[.int .i64 a0_0, .slice A0_1 l0_1.length c0_1], .slice A1 l1.length c1] ?_; (with_reducible refine (graph_Takes.calls k a0_0 _ _ l0_1 _ _ l1 true _ ?side1 ?side2 ?side3 ?side4 A8.out).mono ?_); (case side1 => exact (Kd.C_below HR0_1.out HB.out)); (case side2 => exact HC0_1.out); (case side3 => exact (Kd.C_below HR1.out HB.out)); (case side4 => exact HC1.out); rintro e w23 ⟨rfl, hb⟩; refine ⟨_, rfl, ?_⟩; replace BK667 := ak (blk_below BK667.out hb); replace HB := ak (below_step HB.out hb); (try clear hb); (try clear hb2); (try clear hk); (try clear hi); have hcz24_0 := bkat BK667.out 0; have hcz24_1 := bkat BK667.out 1; have hfz24_0 := blk_frozen BK667.out 0; have hfz24_1 := blk_frozen BK667.out 1) | (go_at_call 54; (with_reducible refine (graph_Has.calls a0_0 _ _ l0_1 a2 true _ ?side1 ?side2 A10.out).mono ?_); (case side1 => exact (Kd.C_below HR0_1.out HB.out)); (case side2 => exact HC0_1.out); rintro e w25 ⟨rfl, hb⟩; have n0_ := ak (blk_below BK667.out hb); have n1_ := ak (below_step HB.out hb); clear BK667; clear HB; have BK667 := n0_; have HB := n1_; clear n0_ n1_; (try clear hb); (try clear hb2); (try clear hk); (try clear hi); have hcz26_0 := bkat BK667.out 0; have hcz26_1 := bkat BK667.out 1; have hfz26_0 := blk_frozen BK667.out 0; have hfz26_1 := blk_frozen BK667.out 1) | (go_at_call 54; (with_reducible refine (graph_Has.calls a0_0 _ _ l0_1 a3 true _ ?side1 ?side2 A12.out).mono ?_); (case side1 => exact (Kd.C_below HR0_1.out HB.out)); (case side2 => exact HC0_1.out); rintro e w27 ⟨rfl, hb⟩; have n0_ := ak (blk_below BK667.out hb); have n1_ := ak (below_step HB.out hb); clear BK667; clear HB; have BK667 := n0_; have HB := n1_; clear n0_ n1_; (try clear hb); (try clear hb2); (try clear hk); (try clear hi)) | (go_at_call 37; (with_reducible refine (rate_Is.calls a4 t671 _ A21.out).mono ?_); rintro e w' ⟨rfl, ⟨nd, rfl⟩⟩))
      go_meet
      case rel => exact ⟨_, (!t671), (by first | rfl | (simp; done) | (simp [*]; done)), H', ⟨by first | omega | exact Nat.le_refl _⟩, ⟨by (with_reducible repeat (first | refine blk_drewN ?_ _ | refine blk_drew ?_ | refine blk_alloc ?_ _)); exact BK667.out⟩, ⟨bq1 HB.out GE667.out⟩⟩
    ·
     replace c13 := Bool.eq_false_iff.mpr c13; subst c13
     have H1 : (push_Push.j0 k l1 a2 a3 a4 true a0_0 l0_1) = some (r1, r2, r3) := by rw [if_neg (show ¬ (false = true) by decide)] at H; exact H
     clear H; have H := H1; clear H1; have H' := ak H; clear H; have hcz28_0 := bkat BK667.out 0; have hcz28_1 := bkat BK667.out 1; have hfz28_0 := blk_frozen BK667.out 0; have hfz28_1 := blk_frozen BK667.out 1
     go_wp2_with (first | ((with_reducible refine gate_callee (f := 53) rfl ?_); refine gl 20 Try.func53 #[.agg #[.int .i64 a0_0, .slice A0_1 l0_1.length c0_1], .slice A1 l1.length c1] ?_; (with_reducible refine (graph_Takes.calls k a0_0 _ _ l0_1 _ _ l1 true _ ?side1 ?side2 ?side3 ?side4 A8.out).mono ?_); (case side1 => exact (Kd.C_below HR0_1.out HB.out)); (case side2 => exact HC0_1.out); (case side3 => exact (Kd.C_below HR1.out HB.out)); (case side4 => exact HC1.out); rintro e w29 ⟨rfl, hb⟩; refine ⟨_, rfl, ?_⟩; replace BK667 := ak (blk_below BK667.out hb); replace HB := ak (below_step HB.out hb); (try clear hb); (try clear hb2); (try clear hk); (try clear hi); have hcz30_0 := bkat BK667.out 0; have hcz30_1 := bkat BK667.out 1; have hfz30_0 := blk_frozen BK667.out 0; have hfz30_1 := blk_frozen BK667.out 1) | (go_at_call 54; (with_reducible refine (graph_Has.calls a0_0 _ _ l0_1 a2 true _ ?side1 ?side2 A10.out).mono ?_); (case side1 => exact (Kd.C_below HR0_1.out HB.out)); (case side2 => exact HC0_1.out); rintro e w31 ⟨rfl, hb⟩; have n0_ := ak (blk_below BK667.out hb); have n1_ := ak (below_step HB.out hb); clear BK667; clear HB; have BK667 := n0_; have HB := n1_; clear n0_ n1_; (try clear hb); (try clear hb2); (try clear hk); (try clear hi); have hcz32_0 := bkat BK667.out 0; have hcz32_1 := bkat BK667.out 1; have hfz32_0 := blk_frozen BK667.out 0; have hfz32_1 := blk_frozen BK667.out 1) | (go_at_call 54; (with_reducible refine (graph_Has.calls a0_0 _ _ l0_1 a3 false _ ?side1 ?side2 A12.out).mono ?_); (case side1 => exact (Kd.C_below HR0_1.out HB.out)); (case side2 => exact HC0_1.out); rintro e w33 ⟨rfl, hb⟩; have n0_ := ak (blk_below BK667.out hb); have n1_ := ak (below_step HB.out hb); clear BK667; clear HB; have BK667 := n0_; have HB := n1_; clear n0_ n1_; (try clear hb); (try clear hb2); (try clear hk); (try clear hi)))
     go_meet
     case rel => exact ⟨_, (true), (by first | rfl | (simp; done) | (simp [*]; done)), H', ⟨by first | omega | exact Nat.le_refl _⟩, ⟨BK667.out⟩, ⟨HB.out⟩⟩
   ·
    replace c11 := Bool.eq_false_iff.mpr c11; subst c11
    have H1 : (push_Push.j0 k l1 a2 a3 a4 true a0_0 l0_1) = some (r1, r2, r3) := by rw [if_neg (show ¬ (false = true) by decide)] at H; exact H
    clear H; have H := H1; clear H1; have H' := ak H; clear H; have hcz34_0 := bkat BK667.out 0; have hcz34_1 := bkat BK667.out 1; have hfz34_0 := blk_frozen BK667.out 0; have hfz34_1 := blk_frozen BK667.out 1
    go_wp2_with (first | ((with_reducible refine gate_callee (f := 53) rfl ?_); refine gl 20 Try.func53 #[.agg #[.int .i64 a0_0, .slice A0_1 l0_1.length c0_1], .slice A1 l1.length c1] ?_; (with_reducible refine (graph_Takes.calls k a0_0 _ _ l0_1 _ _ l1 true _ ?side1 ?side2 ?side3 ?side4 A8.out).mono ?_); (case side1 => exact (Kd.C_below HR0_1.out HB.out)); (case side2 => exact HC0_1.out); (case side3 => exact (Kd.C_below HR1.out HB.out)); (case side4 => exact HC1.out); rintro e w35 ⟨rfl, hb⟩; refine ⟨_, rfl, ?_⟩; replace BK667 := ak (blk_below BK667.out hb); replace HB := ak (below_step HB.out hb); (try clear hb); (try clear hb2); (try clear hk); (try clear hi); have hcz36_0 := bkat BK667.out 0; have hcz36_1 := bkat BK667.out 1; have hfz36_0 := blk_frozen BK667.out 0; have hfz36_1 := blk_frozen BK667.out 1) | (go_at_call 54; (with_reducible refine (graph_Has.calls a0_0 _ _ l0_1 a2 false _ ?side1 ?side2 A10.out).mono ?_); (case side1 => exact (Kd.C_below HR0_1.out HB.out)); (case side2 => exact HC0_1.out); rintro e w37 ⟨rfl, hb⟩; have n0_ := ak (blk_below BK667.out hb); have n1_ := ak (below_step HB.out hb); clear BK667; clear HB; have BK667 := n0_; have HB := n1_; clear n0_ n1_; (try clear hb); (try clear hb2); (try clear hk); (try clear hi)))
    go_meet
    case rel => exact ⟨_, (true), (by first | rfl | (simp; done) | (simp [*]; done)), H', ⟨by first | omega | exact Nat.le_refl _⟩, ⟨BK667.out⟩, ⟨HB.out⟩⟩
  ·
   replace c9 := Bool.eq_false_iff.mpr c9; subst c9
   have H1 : (push_Push.j0 k l1 a2 a3 a4 true a0_0 l0_1) = some (r1, r2, r3) := by rw [if_neg (show ¬ (false = true) by decide)] at H; exact H
   clear H; have H := H1; clear H1; have H' := ak H; clear H; have hcz38_0 := bkat BK667.out 0; have hcz38_1 := bkat BK667.out 1; have hfz38_0 := blk_frozen BK667.out 0; have hfz38_1 := blk_frozen BK667.out 1
   go_wp2_with (first | ((with_reducible refine gate_callee (f := 53) rfl ?_); refine gl 20 Try.func53 #[.agg #[.int .i64 a0_0, .slice A0_1 l0_1.length c0_1], .slice A1 l1.length c1] ?_; (with_reducible refine (graph_Takes.calls k a0_0 _ _ l0_1 _ _ l1 false _ ?side1 ?side2 ?side3 ?side4 A8.out).mono ?_); (case side1 => exact (Kd.C_below HR0_1.out HB.out)); (case side2 => exact HC0_1.out); (case side3 => exact (Kd.C_below HR1.out HB.out)); (case side4 => exact HC1.out); rintro e w39 ⟨rfl, hb⟩; refine ⟨_, rfl, ?_⟩; replace BK667 := ak (blk_below BK667.out hb); replace HB := ak (below_step HB.out hb); (try clear hb); (try clear hb2); (try clear hk); (try clear hi)))
   go_meet
   case rel => exact ⟨_, (true), (by first | rfl | (simp; done) | (simp [*]; done)), H', ⟨by first | omega | exact Nat.le_refl _⟩, ⟨BK667.out⟩, ⟨HB.out⟩⟩
 case rest =>
  clear HC6
  repeat (first | clear c1 | clear c2 | clear p2 | clear c5 | clear c9 | clear c11 | clear c13 | clear c14 | clear c14b0 | clear c14b1 | clear c29 | clear hcz15_0 | clear hcz15_1 | clear hcz17_0 | clear hcz17_1 | clear hcz19_0 | clear hcz19_1 | clear hcz22_0 | clear hcz22_1 | clear hcz24_0 | clear hcz24_1 | clear hcz26_0 | clear hcz26_1 | clear hcz28_0 | clear hcz28_1 | clear hcz30_0 | clear hcz30_1 | clear hcz32_0 | clear hcz32_1 | clear hcz34_0 | clear hcz34_1 | clear hcz36_0 | clear hcz36_1 | clear hcz38_0 | clear hcz38_1 | clear hfz15_0 | clear hfz15_1 | clear hfz17_0 | clear hfz17_1 | clear hfz19_0 | clear hfz19_1 | clear hfz22_0 | clear hfz22_1 | clear hfz24_0 | clear hfz24_1 | clear hfz26_0 | clear hfz26_1 | clear hfz28_0 | clear hfz28_1 | clear hfz30_0 | clear hfz30_1 | clear hfz32_0 | clear hfz32_1 | clear hfz34_0 | clear hfz34_1 | clear hfz36_0 | clear hfz36_1 | clear hfz38_0 | clear hfz38_1)
  obtain ⟨kq, x43_5, rfl, HA, HJ5, BK667, HB⟩ := hcut; cases kq with
  | zero => exact absurd HA.out (by simp [push_Push.j0])
  | succ kj5 =>
   have H := HA.out; clear HA; simp only [push_Push.j0] at H
   by_cases c40 : x43_5 = true
   ·
    subst c40
    have H1 : (some (([] : List Int), 0, 1200)) = some (r1, r2, r3) := by rw [if_pos rfl] at H; exact H
    clear H; have H := H1; clear H1; simp only [Option.some.injEq, Prod.mk.injEq] at H; obtain ⟨rfl, rfl, rfl⟩ := H
    go_wp2
    go_ret3
    exact ⟨_, by first | rfl | (simp [errW_none, errW_some] <;> rfl) | (simp [*, errW_none, errW_some] <;> rfl), by first | exact Kd.R_nil _ _ _ _ _ | exact Kd.N_nil _ _ _ _ _ | exact Kd.V_nil _ _ _ _ _ | exact Kd.Q_nil _ _ _ _ _ | exact Kd.S_nil _ _ _ _ _, bq1 HB.out GE667.out⟩
   ·
    replace c40 := Bool.eq_false_iff.mpr c40; subst c40
    have H1 : (if 0 ≤ (l1.length : Int) then (if ((l1.length : Int) : Int).toNat ≤ 35184372088832 then (push_Push.l0 kj5 l1 a2 a3 a4 (List.replicate ((l1.length : Int) : Int).toNat 0) 0 a0_0 l0_1) else (none)) else (none)) = some (r1, r2, r3) := by rw [if_neg (show ¬ (false = true) by decide)] at H; exact H
    clear H; have H := H1; clear H1
    by_cases c41 : 0 ≤ (l1.length : Int)
    ·
     rw [if_pos c41] at H; have c41b0 := eq_true c41; have c41b1 : decide (0 ≤ (l1.length : Int)) = true := decide_eq_true c41; clear c41
     by_cases c42 : ((l1.length : Int) : Int).toNat ≤ 35184372088832
     ·
      rw [if_pos c42] at H; have c42b0 := eq_true c42; have c42b1 : decide (((l1.length : Int) : Int).toNat ≤ 35184372088832) = true := decide_eq_true c42; clear c42
      obtain ⟨y672, hy672⟩ : ∃ y_ : List Int, y_ = (List.replicate ((l1.length : Int) : Int).toNat 0) := ⟨_, rfl⟩
      replace H : (push_Push.l0 kj5 l1 a2 a3 a4 y672 0 a0_0 l0_1) = some (r1, r2, r3) := by first | (rw [hy672]; with_reducible exact H) | (have H2_ := (Option.bind_some _ _).symm.trans H; rw [hy672]; with_reducible exact H2_) | (have H2_ := (Option.bind_some _ _).symm.trans H; with_reducible exact H2_) | with_reducible exact H | (rw [hy672]; exact H) | exact H
      have Ny672 := ak hy672; clear hy672; have H' := ak H; clear H
      go_wp2_with (first | ((with_reducible refine gate_dst (N := 46) rfl ?_); refine Kd.R_make (Kd.int .i64) _ 3 rfl (N := 46) rfl 25 _ _ rfl (l1.length : Int) rfl rfl Try.underlying25 (.int .i64 0) 8 info3 rfl (by decide) (by omega) 0 (ok := fun _ => True) (okp := fun _ => True) rfl (fun _ hk => hk) trivial (od) (Nat.le_trans (Nat.mul_le_mul_right _ (od : (l1.length : Int).toNat ≤ 35184372088832)) (by omega)) (Below.refl _ _) (Nat.le_refl _) ?_; intro v673 w43 ho44 hb hg_ hnew_; clear hg_ hnew_; (first | rw [← Ny672.out] at ho44 | (simp only [Int.reduceToNat] at ho44; rw [← Ny672.out] at ho44)); have HO674 := ak (Kd.R_lower ho44 (below_size HB.out)); replace BK667 := ak (blk_below BK667.out hb); replace HB := ak (below_step HB.out hb); clear hb ho44))
      go_loopg [13, 14] kj5 (fun kq v13 v14 w' => ∃ (x13_2 : List Int) (x14_2 : Int), v14 = .int .i64 x14_2 ∧ Aside0 (push_Push.l0 kq l1 a2 a3 a4 x13_2 x14_2 a0_0 l0_1 = some (r1, r2, r3)) ∧ Aside0 (kq ≤ kj5) ∧ Aside0 (Kd.R (Kd.int .i64) 3 w' w.heap.size (fun _ => True) v13 x13_2) ∧ Aside0 (w'.heap[gb667]? = some (.cells #[.int .i64 a0_0, (.slice A0_1 l0_1.length c0_1)] 24 (0, 0))) ∧ Aside0 (Below w.heap.size w w'))
      case atStart => exact ⟨(y672), (0), (by first | rfl | (simp; done) | (simp [*]; done)), H', ⟨Nat.le_refl _⟩, ⟨HO674.out⟩, ⟨BK667.out⟩, ⟨HB.out⟩⟩
      case round =>
       clear H'
       repeat (first | clear c1 | clear c2 | clear p2 | clear c4 | clear c5 | clear c9 | clear c11 | clear c13 | clear c14 | clear c14b0 | clear c14b1 | clear c29 | clear c40 | clear c41 | clear c41b0 | clear c41b1 | clear c42 | clear c42b0 | clear c42b1 | clear hcz15_0 | clear hcz15_1 | clear hcz17_0 | clear hcz17_1 | clear hcz19_0 | clear hcz19_1 | clear hcz22_0 | clear hcz22_1 | clear hcz24_0 | clear hcz24_1 | clear hcz26_0 | clear hcz26_1 | clear hcz28_0 | clear hcz28_1 | clear hcz30_0 | clear hcz30_1 | clear hcz32_0 | clear hcz32_1 | clear hcz34_0 | clear hcz34_1 | clear hcz36_0 | clear hcz36_1 | clear hcz38_0 | clear hcz38_1 | clear hfz15_0 | clear hfz15_1 | clear hfz17_0 | clear hfz17_1 | clear hfz19_0 | clear hfz19_1 | clear hfz22_0 | clear hfz22_1 | clear hfz24_0 | clear hfz24_1 | clear hfz26_0 | clear hfz26_1 | clear hfz28_0 | clear hfz28_1 | clear hfz30_0 | clear hfz30_1 | clear hfz32_0 | clear hfz32_1 | clear hfz34_0 | clear hfz34_1 | clear hfz36_0 | clear hfz36_1 | clear hfz38_0 | clear hfz38_1)
       obtain ⟨x13_2, x14_2, rfl, HA, HK2, HO_13, BK667, HB⟩ := hrel; cases gk with
       | zero => exact absurd HA.out (by simp [push_Push.l0])
       | succ k2 =>
        have H := HA.out; clear HA; simp only [push_Push.l0] at H
        by_cases c45 : x14_2 < a4
        ·
         rw [if_pos c45] at H; have c45b0 : decide (x14_2 < a4) = true := decide_eq_true c45; clear c45; replace H := Option.bind_eq_some_iff.mp H; obtain ⟨⟨t675, t678, t679⟩, A460, H⟩ := H; replace H : (if t679 = 0 then (if t678 = 0 then (some (x13_2, x14_2, 0)) else (push_Push.l0 k2 l1 a2 a3 a4 t675 (wrap64 (x14_2 + t678)) a0_0 l0_1)) else (some (x13_2, x14_2, 0))) = some (r1, r2, r3) := H; have A46 := ak A460; clear A460
         by_cases c47 : t679 = 0
         ·
          rw [if_pos c47] at H; have c47b0 : (t679 == 0) = true := beq_iff_eq.mpr c47; have c47b1 : (t679 != 0) = false := bne_eq_false_iff_eq.mpr c47; clear c47
          by_cases c48 : t678 = 0
          ·
           rw [if_pos c48] at H; have c48b0 : (t678 == 0) = true := beq_iff_eq.mpr c48; have c48b1 : (t678 != 0) = false := bne_eq_false_iff_eq.mpr c48; clear c48; simp only [Option.some.injEq, Prod.mk.injEq] at H; obtain ⟨rfl, rfl, rfl⟩ := H; have hcz49_0 := bkat BK667.out 0; have hcz49_1 := bkat BK667.out 1; have hfz49_0 := blk_frozen BK667.out 0; have hfz49_1 := blk_frozen BK667.out 1; obtain ⟨Ao50, co50, eo50⟩ := Kd.R_slice HO_13.out; subst eo50
           go_wp2_with (first | ((with_reducible refine gate_callee (f := 15) rfl ?_); refine gl 59 Try.func15 #[.agg #[.int .i64 a0_0, .slice A0_1 l0_1.length c0_1], .slice A1 l1.length c1, .slice Ao50 x13_2.length co50, .int .i64 a2, .int .i64 a3, .int .i64 (wrap64 (a4 - x14_2))] ?_; (with_reducible refine (block_Block.calls k2 a0_0 _ _ l0_1 _ _ l1 _ _ x13_2 a2 a3 (wrap64 (a4 - x14_2)) t675 t678 t679 _ ?side1 ?side2 ?side3 ?side4 ?side5 ?side6 A46.out).mono ?_); (case side1 => exact (Kd.C_below HR0_1.out HB.out)); (case side2 => exact HC0_1.out); (case side3 => exact (Kd.C_below HR1.out HB.out)); (case side4 => exact HC1.out); (case side5 => exact (Kd.R_reads' HO_13.out).2.2); (case side6 => exact (Kd.R_reads' HO_13.out).2.1); rintro e w51 ⟨v676, rfl, ho0, hb⟩; refine ⟨_, rfl, ?_⟩; have HO677 := ak (Kd.R_lower (Kd.R_new' ho0 (Kd.R_lt HO_13.out)) (below_size HB.out)); replace HO_13 := ak (Kd.R_elder' HO_13.out (Kd.R_base ho0) hb); replace BK667 := ak (blk_below BK667.out hb); replace HB := ak (below_step HB.out hb); (try clear hb); (try clear hb2); (try clear hk); (try clear hi); (try clear ho0)))
           go_ret3
           exact ⟨_, by first | rfl | (simp [errW_none, errW_some] <;> rfl) | (simp [*, errW_none, errW_some] <;> rfl), by (with_reducible repeat (first | apply Kd.R_alloc | apply Kd.R_drewN | apply Kd.R_drew)); exact Kd.R_mono HO_13.out (fun _ hk => trivial), bq1 HB.out GE667.out⟩
          ·
           rw [if_neg c48] at H; have c48b0 : (t678 == 0) = false := beq_eq_false_iff_ne.mpr c48; have c48b1 : (t678 != 0) = true := bne_iff_ne.mpr c48; have H' := ak H; clear H; have hcz52_0 := bkat BK667.out 0; have hcz52_1 := bkat BK667.out 1; have hfz52_0 := blk_frozen BK667.out 0; have hfz52_1 := blk_frozen BK667.out 1; obtain ⟨Ao53, co53, eo53⟩ := Kd.R_slice HO_13.out; subst eo53
           go_wp2_with (first | ((with_reducible refine gate_callee (f := 15) rfl ?_); refine gl 59 Try.func15 #[.agg #[.int .i64 a0_0, .slice A0_1 l0_1.length c0_1], .slice A1 l1.length c1, .slice Ao53 x13_2.length co53, .int .i64 a2, .int .i64 a3, .int .i64 (wrap64 (a4 - x14_2))] ?_; (with_reducible refine (block_Block.calls k2 a0_0 _ _ l0_1 _ _ l1 _ _ x13_2 a2 a3 (wrap64 (a4 - x14_2)) t675 t678 t679 _ ?side1 ?side2 ?side3 ?side4 ?side5 ?side6 A46.out).mono ?_); (case side1 => exact (Kd.C_below HR0_1.out HB.out)); (case side2 => exact HC0_1.out); (case side3 => exact (Kd.C_below HR1.out HB.out)); (case side4 => exact HC1.out); (case side5 => exact (Kd.R_reads' HO_13.out).2.2); (case side6 => exact (Kd.R_reads' HO_13.out).2.1); rintro e w54 ⟨v676, rfl, ho0, hb⟩; refine ⟨_, rfl, ?_⟩; have HO677 := ak (Kd.R_lower (Kd.R_new' ho0 (Kd.R_lt HO_13.out)) (below_size HB.out)); replace HO_13 := ak (Kd.R_elder' HO_13.out (Kd.R_base ho0) hb); replace BK667 := ak (blk_below BK667.out hb); replace HB := ak (below_step HB.out hb); (try clear hb); (try clear hb2); (try clear hk); (try clear hi); (try clear ho0)))
           go_roundg k2
           case measure => have := HJ5.out; have := HK2.out; omega
           case rel => exact ⟨(t675), (wrap64 (x14_2 + t678)), (by first | rfl | (simp; done) | (simp [*]; done)), H', ⟨by have := HJ5.out; have := HK2.out; omega⟩, ⟨by (with_reducible repeat (first | apply Kd.R_alloc | apply Kd.R_drewN | apply Kd.R_drew)); exact Kd.R_mono HO677.out (fun _ hk => trivial)⟩, ⟨BK667.out⟩, ⟨HB.out⟩⟩
         ·
          rw [if_neg c47] at H; have c47b0 : (t679 == 0) = false := beq_eq_false_iff_ne.mpr c47; have c47b1 : (t679 != 0) = true := bne_iff_ne.mpr c47; simp only [Option.some.injEq, Prod.mk.injEq] at H; obtain ⟨rfl, rfl, rfl⟩ := H; have hcz55_0 := bkat BK667.out 0; have hcz55_1 := bkat BK667.out 1; have hfz55_0 := blk_frozen BK667.out 0; have hfz55_1 := blk_frozen BK667.out 1; obtain ⟨Ao56, co56, eo56⟩ := Kd.R_slice HO_13.out; subst eo56
          go_wp2_with (first | ((with_reducible refine gate_callee (f := 15) rfl ?_); refine gl 59 Try.func15 #[.agg #[.int .i64 a0_0, .slice A0_1 l0_1.length c0_1], .slice A1 l1.length c1, .slice Ao56 x13_2.length co56, .int .i64 a2, .int .i64 a3, .int .i64 (wrap64 (a4 - x14_2))] ?_; (with_reducible refine (block_Block.calls k2 a0_0 _ _ l0_1 _ _ l1 _ _ x13_2 a2 a3 (wrap64 (a4 - x14_2)) t675 t678 t679 _ ?side1 ?side2 ?side3 ?side4 ?side5 ?side6 A46.out).mono ?_); (case side1 => exact (Kd.C_below HR0_1.out HB.out)); (case side2 => exact HC0_1.out); (case side3 => exact (Kd.C_below HR1.out HB.out)); (case side4 => exact HC1.out); (case side5 => exact (Kd.R_reads' HO_13.out).2.2); (case side6 => exact (Kd.R_reads' HO_13.out).2.1); rintro e w57 ⟨v676, rfl, ho0, hb⟩; refine ⟨_, rfl, ?_⟩; have HO677 := ak (Kd.R_lower (Kd.R_new' ho0 (Kd.R_lt HO_13.out)) (below_size HB.out)); replace HO_13 := ak (Kd.R_elder' HO_13.out (Kd.R_base ho0) hb); replace BK667 := ak (blk_below BK667.out hb); replace HB := ak (below_step HB.out hb); (try clear hb); (try clear hb2); (try clear hk); (try clear hi); (try clear ho0)))
          go_ret3
          exact ⟨_, by first | rfl | (simp [errW_none, errW_some] <;> rfl) | (simp [*, errW_none, errW_some] <;> rfl), by (with_reducible repeat (first | apply Kd.R_alloc | apply Kd.R_drewN | apply Kd.R_drew)); exact Kd.R_mono HO_13.out (fun _ hk => trivial), bq1 HB.out GE667.out⟩
        ·
         rw [if_neg c45] at H; have c45b0 : decide (x14_2 < a4) = false := decide_eq_false c45; clear c45; simp only [Option.some.injEq, Prod.mk.injEq] at H; obtain ⟨rfl, rfl, rfl⟩ := H
         go_wp2
         go_ret3
         exact ⟨_, by first | rfl | (simp [errW_none, errW_some] <;> rfl) | (simp [*, errW_none, errW_some] <;> rfl), by (with_reducible repeat (first | apply Kd.R_alloc | apply Kd.R_drewN | apply Kd.R_drew)); exact HO_13.out, bq1 HB.out GE667.out⟩
     ·
      rw [if_neg c42] at H; exact absurd H (by simp)
    ·
     rw [if_neg c41] at H; exact absurd H (by simp)
def tollbarlaw12_fine.f (k : Nat) (a0_0 : Int) (l0_1 : List (S53)) (l1 : List Int) (a2 : Int) (a3 : Int) : Option (Bool) := (tollbarref4_CapsMay.f k a0_0 l0_1 l1).bind fun t681 => (if t681 = true then ((tollbarref4_Vertex.f a0_0 l0_1 a2).bind fun t682 => (if t682 = true then ((tollbarref4_Vertex.f a0_0 l0_1 a3).bind fun t683 => (if t683 = true then (some (a2 != a3)) else (some false))) else (some false))) else (some false))
theorem tollbarlaw12_fine.calls (k : Nat) (a0_0 : Int) (A0_1 : Option Addr) (c0_1 : Nat) (l0_1 : List (S53)) (A1 : Option Addr) (c1 : Nat) (l1 : List Int) (a2 : Int) (a3 : Int) (r : Bool) (w : World) (hr0_1 : Kd.C k53 w A0_1 l0_1.length l0_1) (hc0_1 : l0_1.length ≤ c0_1) (hr1 : Kd.C (Kd.int .i64) w A1 l1.length l1) (hc1 : l1.length ≤ c1) (h : tollbarlaw12_fine.f k a0_0 l0_1 l1 a2 a3 = some r) :
  Calls Try.prog 30 #[.agg #[.int .i64 a0_0, .slice A0_1 l0_1.length c0_1], .slice A1 l1.length c1, .int .i64 a2, .int .i64 a3] w fun e w' => e = .returned (.bool r) ∧ Below w.heap.size w w' := by
 have hu24 := Try.underlying24; have HR0_1 := ak hr0_1; have HC0_1 := ak hc0_1; clear hr0_1 hc0_1; have HR1 := ak hr1; have HC1 := ak hc1; clear hr1 hc1; have HB := ak (Below.refl w.heap.size w); have H : ((tollbarref4_CapsMay.f k a0_0 l0_1 l1).bind fun t681 => (if t681 = true then ((tollbarref4_Vertex.f a0_0 l0_1 a2).bind fun t682 => (if t682 = true then ((tollbarref4_Vertex.f a0_0 l0_1 a3).bind fun t683 => (if t683 = true then (some (a2 != a3)) else (some false))) else (some false))) else (some false))) = some r := h; clear h; replace H := Option.bind_eq_some_iff.mp H; obtain ⟨t681, A50, H⟩ := H; replace H : (if t681 = true then ((tollbarref4_Vertex.f a0_0 l0_1 a2).bind fun t682 => (if t682 = true then ((tollbarref4_Vertex.f a0_0 l0_1 a3).bind fun t683 => (if t683 = true then (some (a2 != a3)) else (some false))) else (some false))) else (some false)) = some r := H; have A5 := ak A50; clear A50
 by_cases c6 : t681 = true
 ·
  subst c6
  have H1 : ((tollbarref4_Vertex.f a0_0 l0_1 a2).bind fun t682 => (if t682 = true then ((tollbarref4_Vertex.f a0_0 l0_1 a3).bind fun t683 => (if t683 = true then (some (a2 != a3)) else (some false))) else (some false))) = some r := by rw [if_pos rfl] at H; exact H
  clear H; have H := H1; clear H1; replace H := Option.bind_eq_some_iff.mp H; obtain ⟨t682, A70, H⟩ := H; replace H : (if t682 = true then ((tollbarref4_Vertex.f a0_0 l0_1 a3).bind fun t683 => (if t683 = true then (some (a2 != a3)) else (some false))) else (some false)) = some r := H; have A7 := ak A70; clear A70
  by_cases c8 : t682 = true
  ·
   subst c8
   have H1 : ((tollbarref4_Vertex.f a0_0 l0_1 a3).bind fun t683 => (if t683 = true then (some (a2 != a3)) else (some false))) = some r := by rw [if_pos rfl] at H; exact H
   clear H; have H := H1; clear H1; replace H := Option.bind_eq_some_iff.mp H; obtain ⟨t683, A90, H⟩ := H; replace H : (if t683 = true then (some (a2 != a3)) else (some false)) = some r := H; have A9 := ak A90; clear A90
   by_cases c10 : t683 = true
   ·
    subst c10
    have H1 : (some (a2 != a3)) = some r := by rw [if_pos rfl] at H; exact H
    clear H; have H := H1; clear H1; obtain rfl := Option.some.inj H
    go_enter Try.func30, Try.ntmps30
    go_wp2_with (first | ((with_reducible refine gate_dst (N := 4) rfl ?_); refine box_event ?hg (N := 4) ?hd (cs := #[.int .i64 a0_0, .slice A0_1 l0_1.length c0_1]) (t := 24) ?hr ?_; (case hd => rfl); (case hg => rfl); (case hr => first | (go_simp; done) | (go_simp; rfl)); intro gb680 hg w11 hbox hb; have BK680 := ak (hbox); have GW680 := ak ((by rw [hg]; exact (below_size HB.out) : w.heap.size ≤ gb680)); have GE680 := ak ((by rw [hg]; exact (below_size HB.out) : w.heap.size ≤ gb680)); replace HB := ak (below_step HB.out hb); clear hb hbox hg; have hcz12_0 := bkat BK680.out 0; have hcz12_1 := bkat BK680.out 1; have hfz12_0 := blk_frozen BK680.out 0; have hfz12_1 := blk_frozen BK680.out 1) | ((with_reducible refine gate_callee (f := 26) rfl ?_); refine gl 11 Try.func26 #[.agg #[.int .i64 a0_0, .slice A0_1 l0_1.length c0_1], .slice A1 l1.length c1] ?_; (with_reducible refine (tollbarref4_CapsMay.calls k a0_0 _ _ l0_1 _ _ l1 true _ ?side1 ?side2 ?side3 ?side4 A5.out).mono ?_); (case side1 => exact (Kd.C_below HR0_1.out HB.out)); (case side2 => exact HC0_1.out); (case side3 => exact (Kd.C_below HR1.out HB.out)); (case side4 => exact HC1.out); rintro e w13 ⟨rfl, hb⟩; refine ⟨_, rfl, ?_⟩; replace BK680 := ak (blk_below BK680.out hb); replace HB := ak (below_step HB.out hb); (try clear hb); (try clear hb2); (try clear hk); (try clear hi); have hcz14_0 := bkat BK680.out 0; have hcz14_1 := bkat BK680.out 1; have hfz14_0 := blk_frozen BK680.out 0; have hfz14_1 := blk_frozen BK680.out 1) | (go_at_call 46; (with_reducible refine (tollbarref4_Vertex.calls a0_0 _ _ l0_1 a2 true _ ?side1 ?side2 A7.out).mono ?_); (case side1 => exact (Kd.C_below HR0_1.out HB.out)); (case side2 => exact HC0_1.out); rintro e w15 ⟨rfl, hb⟩; have n0_ := ak (blk_below BK680.out hb); have n1_ := ak (below_step HB.out hb); clear BK680; clear HB; have BK680 := n0_; have HB := n1_; clear n0_ n1_; (try clear hb); (try clear hb2); (try clear hk); (try clear hi); have hcz16_0 := bkat BK680.out 0; have hcz16_1 := bkat BK680.out 1; have hfz16_0 := blk_frozen BK680.out 0; have hfz16_1 := blk_frozen BK680.out 1) | (go_at_call 46; (with_reducible refine (tollbarref4_Vertex.calls a0_0 _ _ l0_1 a3 true _ ?side1 ?side2 A9.out).mono ?_); (case side1 => exact (Kd.C_below HR0_1.out HB.out)); (case side2 => exact HC0_1.out); rintro e w17 ⟨rfl, hb⟩; have n0_ := ak (blk_below BK680.out hb); have n1_ := ak (below_step HB.out hb); clear BK680; clear HB; have BK680 := n0_; have HB := n1_; clear n0_ n1_; (try clear hb); (try clear hb2); (try clear hk); (try clear hi)))
    go_ret
    exact ⟨by first | rfl | (simp [errW_none, errW_some] <;> rfl) | (simp [*, errW_none, errW_some] <;> rfl), bq1 HB.out GE680.out⟩
   ·
    replace c10 := Bool.eq_false_iff.mpr c10; subst c10
    have H1 : (some false) = some r := by rw [if_neg (show ¬ (false = true) by decide)] at H; exact H
    clear H; have H := H1; clear H1; obtain rfl := Option.some.inj H
    go_enter Try.func30, Try.ntmps30
    go_wp2_with (first | ((with_reducible refine gate_dst (N := 4) rfl ?_); refine box_event ?hg (N := 4) ?hd (cs := #[.int .i64 a0_0, .slice A0_1 l0_1.length c0_1]) (t := 24) ?hr ?_; (case hd => rfl); (case hg => rfl); (case hr => first | (go_simp; done) | (go_simp; rfl)); intro gb680 hg w18 hbox hb; have BK680 := ak (hbox); have GW680 := ak ((by rw [hg]; exact (below_size HB.out) : w.heap.size ≤ gb680)); have GE680 := ak ((by rw [hg]; exact (below_size HB.out) : w.heap.size ≤ gb680)); replace HB := ak (below_step HB.out hb); clear hb hbox hg; have hcz19_0 := bkat BK680.out 0; have hcz19_1 := bkat BK680.out 1; have hfz19_0 := blk_frozen BK680.out 0; have hfz19_1 := blk_frozen BK680.out 1) | ((with_reducible refine gate_callee (f := 26) rfl ?_); refine gl 11 Try.func26 #[.agg #[.int .i64 a0_0, .slice A0_1 l0_1.length c0_1], .slice A1 l1.length c1] ?_; (with_reducible refine (tollbarref4_CapsMay.calls k a0_0 _ _ l0_1 _ _ l1 true _ ?side1 ?side2 ?side3 ?side4 A5.out).mono ?_); (case side1 => exact (Kd.C_below HR0_1.out HB.out)); (case side2 => exact HC0_1.out); (case side3 => exact (Kd.C_below HR1.out HB.out)); (case side4 => exact HC1.out); rintro e w20 ⟨rfl, hb⟩; refine ⟨_, rfl, ?_⟩; replace BK680 := ak (blk_below BK680.out hb); replace HB := ak (below_step HB.out hb); (try clear hb); (try clear hb2); (try clear hk); (try clear hi); have hcz21_0 := bkat BK680.out 0; have hcz21_1 := bkat BK680.out 1; have hfz21_0 := blk_frozen BK680.out 0; have hfz21_1 := blk_frozen BK680.out 1) | (go_at_call 46; (with_reducible refine (tollbarref4_Vertex.calls a0_0 _ _ l0_1 a2 true _ ?side1 ?side2 A7.out).mono ?_); (case side1 => exact (Kd.C_below HR0_1.out HB.out)); (case side2 => exact HC0_1.out); rintro e w22 ⟨rfl, hb⟩; have n0_ := ak (blk_below BK680.out hb); have n1_ := ak (below_step HB.out hb); clear BK680; clear HB; have BK680 := n0_; have HB := n1_; clear n0_ n1_; (try clear hb); (try clear hb2); (try clear hk); (try clear hi); have hcz23_0 := bkat BK680.out 0; have hcz23_1 := bkat BK680.out 1; have hfz23_0 := blk_frozen BK680.out 0; have hfz23_1 := blk_frozen BK680.out 1) | (go_at_call 46; (with_reducible refine (tollbarref4_Vertex.calls a0_0 _ _ l0_1 a3 false _ ?side1 ?side2 A9.out).mono ?_); (case side1 => exact (Kd.C_below HR0_1.out HB.out)); (case side2 => exact HC0_1.out); rintro e w24 ⟨rfl, hb⟩; have n0_ := ak (blk_below BK680.out hb); have n1_ := ak (below_step HB.out hb); clear BK680; clear HB; have BK680 := n0_; have HB := n1_; clear n0_ n1_; (try clear hb); (try clear hb2); (try clear hk); (try clear hi)))
    go_ret
    exact ⟨by first | rfl | (simp [errW_none, errW_some] <;> rfl) | (simp [*, errW_none, errW_some] <;> rfl), bq1 HB.out GE680.out⟩
  ·
   replace c8 := Bool.eq_false_iff.mpr c8; subst c8
   have H1 : (some false) = some r := by rw [if_neg (show ¬ (false = true) by decide)] at H; exact H
   clear H; have H := H1; clear H1; obtain rfl := Option.some.inj H
   go_enter Try.func30, Try.ntmps30
   go_wp2_with (first | ((with_reducible refine gate_dst (N := 4) rfl ?_); refine box_event ?hg (N := 4) ?hd (cs := #[.int .i64 a0_0, .slice A0_1 l0_1.length c0_1]) (t := 24) ?hr ?_; (case hd => rfl); (case hg => rfl); (case hr => first | (go_simp; done) | (go_simp; rfl)); intro gb680 hg w25 hbox hb; have BK680 := ak (hbox); have GW680 := ak ((by rw [hg]; exact (below_size HB.out) : w.heap.size ≤ gb680)); have GE680 := ak ((by rw [hg]; exact (below_size HB.out) : w.heap.size ≤ gb680)); replace HB := ak (below_step HB.out hb); clear hb hbox hg; have hcz26_0 := bkat BK680.out 0; have hcz26_1 := bkat BK680.out 1; have hfz26_0 := blk_frozen BK680.out 0; have hfz26_1 := blk_frozen BK680.out 1) | ((with_reducible refine gate_callee (f := 26) rfl ?_); refine gl 11 Try.func26 #[.agg #[.int .i64 a0_0, .slice A0_1 l0_1.length c0_1], .slice A1 l1.length c1] ?_; (with_reducible refine (tollbarref4_CapsMay.calls k a0_0 _ _ l0_1 _ _ l1 true _ ?side1 ?side2 ?side3 ?side4 A5.out).mono ?_); (case side1 => exact (Kd.C_below HR0_1.out HB.out)); (case side2 => exact HC0_1.out); (case side3 => exact (Kd.C_below HR1.out HB.out)); (case side4 => exact HC1.out); rintro e w27 ⟨rfl, hb⟩; refine ⟨_, rfl, ?_⟩; replace BK680 := ak (blk_below BK680.out hb); replace HB := ak (below_step HB.out hb); (try clear hb); (try clear hb2); (try clear hk); (try clear hi); have hcz28_0 := bkat BK680.out 0; have hcz28_1 := bkat BK680.out 1; have hfz28_0 := blk_frozen BK680.out 0; have hfz28_1 := blk_frozen BK680.out 1) | (go_at_call 46; (with_reducible refine (tollbarref4_Vertex.calls a0_0 _ _ l0_1 a2 false _ ?side1 ?side2 A7.out).mono ?_); (case side1 => exact (Kd.C_below HR0_1.out HB.out)); (case side2 => exact HC0_1.out); rintro e w29 ⟨rfl, hb⟩; have n0_ := ak (blk_below BK680.out hb); have n1_ := ak (below_step HB.out hb); clear BK680; clear HB; have BK680 := n0_; have HB := n1_; clear n0_ n1_; (try clear hb); (try clear hb2); (try clear hk); (try clear hi)))
   go_ret
   exact ⟨by first | rfl | (simp [errW_none, errW_some] <;> rfl) | (simp [*, errW_none, errW_some] <;> rfl), bq1 HB.out GE680.out⟩
 ·
  replace c6 := Bool.eq_false_iff.mpr c6; subst c6
  have H1 : (some false) = some r := by rw [if_neg (show ¬ (false = true) by decide)] at H; exact H
  clear H; have H := H1; clear H1; obtain rfl := Option.some.inj H
  go_enter Try.func30, Try.ntmps30
  go_wp2_with (first | ((with_reducible refine gate_dst (N := 4) rfl ?_); refine box_event ?hg (N := 4) ?hd (cs := #[.int .i64 a0_0, .slice A0_1 l0_1.length c0_1]) (t := 24) ?hr ?_; (case hd => rfl); (case hg => rfl); (case hr => first | (go_simp; done) | (go_simp; rfl)); intro gb680 hg w30 hbox hb; have BK680 := ak (hbox); have GW680 := ak ((by rw [hg]; exact (below_size HB.out) : w.heap.size ≤ gb680)); have GE680 := ak ((by rw [hg]; exact (below_size HB.out) : w.heap.size ≤ gb680)); replace HB := ak (below_step HB.out hb); clear hb hbox hg; have hcz31_0 := bkat BK680.out 0; have hcz31_1 := bkat BK680.out 1; have hfz31_0 := blk_frozen BK680.out 0; have hfz31_1 := blk_frozen BK680.out 1) | ((with_reducible refine gate_callee (f := 26) rfl ?_); refine gl 11 Try.func26 #[.agg #[.int .i64 a0_0, .slice A0_1 l0_1.length c0_1], .slice A1 l1.length c1] ?_; (with_reducible refine (tollbarref4_CapsMay.calls k a0_0 _ _ l0_1 _ _ l1 false _ ?side1 ?side2 ?side3 ?side4 A5.out).mono ?_); (case side1 => exact (Kd.C_below HR0_1.out HB.out)); (case side2 => exact HC0_1.out); (case side3 => exact (Kd.C_below HR1.out HB.out)); (case side4 => exact HC1.out); rintro e w32 ⟨rfl, hb⟩; refine ⟨_, rfl, ?_⟩; replace BK680 := ak (blk_below BK680.out hb); replace HB := ak (below_step HB.out hb); (try clear hb); (try clear hb2); (try clear hk); (try clear hi)))
  go_ret
  exact ⟨by first | rfl | (simp [errW_none, errW_some] <;> rfl) | (simp [*, errW_none, errW_some] <;> rfl), bq1 HB.out GE680.out⟩
def tollbarlaw12_small.f  : Option (Int × (List (S53))) := some (3, (([(⟨0, 1, 5⟩ : S53), (⟨1, 2, 4⟩ : S53), (⟨0, 2, 3⟩ : S53)] : List (S53))))
theorem tollbarlaw12_small.calls  (r1 : Int) (r2 : List (S53)) (w : World) (h : tollbarlaw12_small.f  = some (r1, r2)) :
    Calls Try.prog 55 #[] w fun e w' => ∃ v1_ : Value, e = .returned (.agg #[.int .i64 r1, v1_]) ∧ Kd.R k53 53 w' w.heap.size (fun _ => True) v1_ r2 ∧ Below w.heap.size w w' := by
  have hu24 := Try.underlying24; have hu53 := Try.underlying53; have HB := ak (Below.refl w.heap.size w); have H : (some (3, (([(⟨0, 1, 5⟩ : S53), (⟨1, 2, 4⟩ : S53), (⟨0, 2, 3⟩ : S53)] : List (S53))))) = some (r1, r2) := h; clear h
  obtain ⟨y685, hy685⟩ : ∃ y_ : List (S53), y_ = (([(⟨0, 1, 5⟩ : S53), (⟨1, 2, 4⟩ : S53), (⟨0, 2, 3⟩ : S53)] : List (S53))) := ⟨_, rfl⟩
  replace H : (some (3, y685)) = some (r1, r2) := by first | (rw [hy685]; with_reducible exact H) | (have H2_ := (Option.bind_some _ _).symm.trans H; rw [hy685]; with_reducible exact H2_) | (have H2_ := (Option.bind_some _ _).symm.trans H; with_reducible exact H2_) | with_reducible exact H | (rw [hy685]; exact H) | exact H
  have Ny685 := ak hy685; clear hy685; simp only [Option.some.injEq, Prod.mk.injEq] at H; obtain ⟨rfl, rfl⟩ := H
  go_enter Try.func55, Try.ntmps55
  go_wp2_with (first | ((with_reducible refine gate_dst (N := 0) rfl ?_); refine box_event ?hg (N := 0) ?hd (cs := #[.int .i64 0, .slice none 0 0]) (t := 24) ?hr ?_; (case hd => rfl); (case hg => rfl); (case hr => first | (go_simp; done) | (go_simp; rfl)); intro gb684 hg w1 hbox hb; have BK684 := ak (hbox); have GW684 := ak ((by rw [hg]; exact (below_size HB.out) : w.heap.size ≤ gb684)); have GE684 := ak ((by rw [hg]; exact (below_size HB.out) : w.heap.size ≤ gb684)); replace HB := ak (below_step HB.out hb); clear hb hbox hg) | ((with_reducible refine gate_dst (N := 4) rfl ?_); refine Kd.R_lit k53 _ 53 ?hg (N := 4) ?hd (xs := ([(⟨0, 1, 5⟩ : S53), (⟨1, 2, 4⟩ : S53), (⟨0, 2, 3⟩ : S53)] : List (S53))) (inner := [.int .i64 0, .int .i64 1, .int .i64 5, .int .i64 1, .int .i64 2, .int .i64 4, .int .i64 0, .int .i64 2, .int .i64 3]) (ok := fun _ => True) (okp := fun _ => True) ?hr ?hp (fun _ hk => hk) trivial (Below.refl _ _) (Nat.le_refl _) (by simp) ?_; (case hd => rfl); (case hg => rfl); (case hr => first | (go_simp; done) | (go_simp; rfl)); (case hp => exact (Reps.c3 (show Kd.M k53 _ _ _ (⟨0, 1, 5⟩ : S53) [.int .i64 0, .int .i64 1, .int .i64 5] from (k53_mkM _ _ _ (⟨0, 1, 5⟩ : S53) )) (Reps.c3 (show Kd.M k53 _ _ _ (⟨1, 2, 4⟩ : S53) [.int .i64 1, .int .i64 2, .int .i64 4] from (k53_mkM _ _ _ (⟨1, 2, 4⟩ : S53) )) (Reps.c3 (show Kd.M k53 _ _ _ (⟨0, 2, 3⟩ : S53) [.int .i64 0, .int .i64 2, .int .i64 3] from (k53_mkM _ _ _ (⟨0, 2, 3⟩ : S53) )) (Reps.none _ _))))); intro v686 w2 ho3 hb hg_ hnew_; clear hg_ hnew_; (first | rw [← Ny685.out] at ho3 | (simp only [Int.reduceToNat] at ho3; rw [← Ny685.out] at ho3)); have HO687 := ak (Kd.R_lower ho3 (below_size HB.out)); replace BK684 := ak (blk_below (g := gb684) (o := .cells #[.int .i64 0, .slice none 0 0] 24 (0, 0)) BK684.out hb); replace HB := ak (below_step HB.out hb); clear hb ho3; obtain ⟨Ao4, co4, eo4⟩ := Kd.R_slice HO687.out; subst eo4; have hcz5_0 := bkat BK684.out 0; have hcz5_1 := bkat BK684.out 1; have hfz5_0 := blk_frozen BK684.out 0; have hfz5_1 := blk_frozen BK684.out 1))
  refine bodyPost_ret (results_cell_row rfl _ _ gb684 24 #[.int .i64 3, .slice Ao4 y685.length co4] (0, 0) _ rfl (by (with_reducible repeat (first | refine blk_drewN ?_ _ | refine blk_drew ?_ | refine blk_alloc ?_ _)); refine blk_put (cs := #[.int .i64 3, .slice none 0 0]) ?_ 1 _ rfl; (with_reducible repeat (first | refine blk_drewN ?_ _ | refine blk_drew ?_ | refine blk_alloc ?_ _)); refine blk_put (cs := #[.int .i64 0, .slice none 0 0]) ?_ 0 _ rfl; (with_reducible repeat (first | refine blk_drewN ?_ _ | refine blk_drew ?_ | refine blk_alloc ?_ _)); exact BK684.out) Try.underlying24 rfl (by kernel_rfl)) rfl ?_; exact ⟨_, by first | rfl | (simp [errW_none, errW_some] <;> rfl) | (simp [*, errW_none, errW_some] <;> rfl), by (with_reducible repeat (first | apply Kd.R_alloc | apply Kd.R_drewN | apply Kd.R_drew)); exact Kd.R_mono (Kd.R_far (p := ⟨gb684, 1, none⟩) (Kd.R_far (p := ⟨gb684, 0, none⟩) (Kd.R_types HO687.out BK684.out (by decide)) (fun _ hk => hk.2) (.int .i64 3)) (fun _ hk => hk.2) (.slice Ao4 y685.length co4)) (fun _ hk => trivial), bq1 HB.out GE684.out⟩
def tollbarlaw12_awake.f (k : Nat)  : Option (Bool) := (tollbarlaw12_small.f).bind fun bt688 => ((push_Push.f k bt688.1 bt688.2 (([5, 4, 3] : List Int)) 0 2 9).bind fun bt695 => ((tollbarlaw12_small.f).bind fun bt700 => ((push_Push.f k bt700.1 bt700.2 (([5, 4, 3] : List Int)) 0 2 6).bind fun bt707 => ((tollbarlaw12_small.f).bind fun bt712 => ((push_Push.f k bt712.1 bt712.2 (([5, 4, 3] : List Int)) 0 0 6).bind fun bt719 => ((tollbarlaw0_SameInts.f k bt695.1 (([4, 4, 3] : List Int))).bind fun t727 => (if t727 = true then (if bt695.2.1 = 7 then ((tollbarlaw0_Num.f bt695.2.2).bind fun t728 => (if t728 = 0 then (if bt707.2.1 = 6 then ((tollbarlaw0_Num.f bt707.2.2).bind fun t729 => (if t729 = 0 then ((tollbarlaw0_Num.f bt719.2.2).bind fun t730 => (some (t730 == 1200))) else (none))) else (none)) else (none))) else (none)) else (none))))))))
theorem tollbarlaw12_awake.calls (k : Nat)  (r : Bool) (w : World) (h : tollbarlaw12_awake.f k  = some r) :
  Calls Try.prog 31 #[] w fun e w' => e = .returned (.bool r) ∧ Below w.heap.size w w' := by
 have HB := ak (Below.refl w.heap.size w); have H : ((tollbarlaw12_small.f).bind fun bt688 => ((push_Push.f k bt688.1 bt688.2 (([5, 4, 3] : List Int)) 0 2 9).bind fun bt695 => ((tollbarlaw12_small.f).bind fun bt700 => ((push_Push.f k bt700.1 bt700.2 (([5, 4, 3] : List Int)) 0 2 6).bind fun bt707 => ((tollbarlaw12_small.f).bind fun bt712 => ((push_Push.f k bt712.1 bt712.2 (([5, 4, 3] : List Int)) 0 0 6).bind fun bt719 => ((tollbarlaw0_SameInts.f k bt695.1 (([4, 4, 3] : List Int))).bind fun t727 => (if t727 = true then (if bt695.2.1 = 7 then ((tollbarlaw0_Num.f bt695.2.2).bind fun t728 => (if t728 = 0 then (if bt707.2.1 = 6 then ((tollbarlaw0_Num.f bt707.2.2).bind fun t729 => (if t729 = 0 then ((tollbarlaw0_Num.f bt719.2.2).bind fun t730 => (some (t730 == 1200))) else (none))) else (none)) else (none))) else (none)) else (none))))))))) = some r := h; clear h; replace H := Option.bind_eq_some_iff.mp H; obtain ⟨⟨t688, t689⟩, A10, H⟩ := H; replace H : ((push_Push.f k t688 t689 (([5, 4, 3] : List Int)) 0 2 9).bind fun bt695 => ((tollbarlaw12_small.f).bind fun bt700 => ((push_Push.f k bt700.1 bt700.2 (([5, 4, 3] : List Int)) 0 2 6).bind fun bt707 => ((tollbarlaw12_small.f).bind fun bt712 => ((push_Push.f k bt712.1 bt712.2 (([5, 4, 3] : List Int)) 0 0 6).bind fun bt719 => ((tollbarlaw0_SameInts.f k bt695.1 (([4, 4, 3] : List Int))).bind fun t727 => (if t727 = true then (if bt695.2.1 = 7 then ((tollbarlaw0_Num.f bt695.2.2).bind fun t728 => (if t728 = 0 then (if bt707.2.1 = 6 then ((tollbarlaw0_Num.f bt707.2.2).bind fun t729 => (if t729 = 0 then ((tollbarlaw0_Num.f bt719.2.2).bind fun t730 => (some (t730 == 1200))) else (none))) else (none)) else (none))) else (none)) else (none)))))))) = some r := H; have A1 := ak A10; clear A10
 obtain ⟨y692, hy692⟩ : ∃ y_ : List Int, y_ = (([5, 4, 3] : List Int)) := ⟨_, rfl⟩
 replace H : ((push_Push.f k t688 t689 y692 0 2 9).bind fun bt695 => ((tollbarlaw12_small.f).bind fun bt700 => ((push_Push.f k bt700.1 bt700.2 (([5, 4, 3] : List Int)) 0 2 6).bind fun bt707 => ((tollbarlaw12_small.f).bind fun bt712 => ((push_Push.f k bt712.1 bt712.2 (([5, 4, 3] : List Int)) 0 0 6).bind fun bt719 => ((tollbarlaw0_SameInts.f k bt695.1 (([4, 4, 3] : List Int))).bind fun t727 => (if t727 = true then (if bt695.2.1 = 7 then ((tollbarlaw0_Num.f bt695.2.2).bind fun t728 => (if t728 = 0 then (if bt707.2.1 = 6 then ((tollbarlaw0_Num.f bt707.2.2).bind fun t729 => (if t729 = 0 then ((tollbarlaw0_Num.f bt719.2.2).bind fun t730 => (some (t730 == 1200))) else (none))) else (none)) else (none))) else (none)) else (none)))))))) = some r := by first | (rw [hy692]; with_reducible exact H) | (have H2_ := (Option.bind_some _ _).symm.trans H; rw [hy692]; with_reducible exact H2_) | (have H2_ := (Option.bind_some _ _).symm.trans H; with_reducible exact H2_) | with_reducible exact H | (rw [hy692]; exact H) | exact H
 have Ny692 := ak hy692; clear hy692; replace H := Option.bind_eq_some_iff.mp H; obtain ⟨⟨t695, t698, t699⟩, A20, H⟩ := H; replace H : ((tollbarlaw12_small.f).bind fun bt700 => ((push_Push.f k bt700.1 bt700.2 (([5, 4, 3] : List Int)) 0 2 6).bind fun bt707 => ((tollbarlaw12_small.f).bind fun bt712 => ((push_Push.f k bt712.1 bt712.2 (([5, 4, 3] : List Int)) 0 0 6).bind fun bt719 => ((tollbarlaw0_SameInts.f k t695 (([4, 4, 3] : List Int))).bind fun t727 => (if t727 = true then (if t698 = 7 then ((tollbarlaw0_Num.f t699).bind fun t728 => (if t728 = 0 then (if bt707.2.1 = 6 then ((tollbarlaw0_Num.f bt707.2.2).bind fun t729 => (if t729 = 0 then ((tollbarlaw0_Num.f bt719.2.2).bind fun t730 => (some (t730 == 1200))) else (none))) else (none)) else (none))) else (none)) else (none))))))) = some r := H; have A2 := ak A20; clear A20; replace H := Option.bind_eq_some_iff.mp H; obtain ⟨⟨t700, t701⟩, A30, H⟩ := H; replace H : ((push_Push.f k t700 t701 (([5, 4, 3] : List Int)) 0 2 6).bind fun bt707 => ((tollbarlaw12_small.f).bind fun bt712 => ((push_Push.f k bt712.1 bt712.2 (([5, 4, 3] : List Int)) 0 0 6).bind fun bt719 => ((tollbarlaw0_SameInts.f k t695 (([4, 4, 3] : List Int))).bind fun t727 => (if t727 = true then (if t698 = 7 then ((tollbarlaw0_Num.f t699).bind fun t728 => (if t728 = 0 then (if bt707.2.1 = 6 then ((tollbarlaw0_Num.f bt707.2.2).bind fun t729 => (if t729 = 0 then ((tollbarlaw0_Num.f bt719.2.2).bind fun t730 => (some (t730 == 1200))) else (none))) else (none)) else (none))) else (none)) else (none)))))) = some r := H; have A3 := ak A30; clear A30
 obtain ⟨y704, hy704⟩ : ∃ y_ : List Int, y_ = (([5, 4, 3] : List Int)) := ⟨_, rfl⟩
 replace H : ((push_Push.f k t700 t701 y704 0 2 6).bind fun bt707 => ((tollbarlaw12_small.f).bind fun bt712 => ((push_Push.f k bt712.1 bt712.2 (([5, 4, 3] : List Int)) 0 0 6).bind fun bt719 => ((tollbarlaw0_SameInts.f k t695 (([4, 4, 3] : List Int))).bind fun t727 => (if t727 = true then (if t698 = 7 then ((tollbarlaw0_Num.f t699).bind fun t728 => (if t728 = 0 then (if bt707.2.1 = 6 then ((tollbarlaw0_Num.f bt707.2.2).bind fun t729 => (if t729 = 0 then ((tollbarlaw0_Num.f bt719.2.2).bind fun t730 => (some (t730 == 1200))) else (none))) else (none)) else (none))) else (none)) else (none)))))) = some r := by first | (rw [hy704]; with_reducible exact H) | (have H2_ := (Option.bind_some _ _).symm.trans H; rw [hy704]; with_reducible exact H2_) | (have H2_ := (Option.bind_some _ _).symm.trans H; with_reducible exact H2_) | with_reducible exact H | (rw [hy704]; exact H) | exact H
 have Ny704 := ak hy704; clear hy704; replace H := Option.bind_eq_some_iff.mp H; obtain ⟨⟨t707, t710, t711⟩, A40, H⟩ := H; replace H : ((tollbarlaw12_small.f).bind fun bt712 => ((push_Push.f k bt712.1 bt712.2 (([5, 4, 3] : List Int)) 0 0 6).bind fun bt719 => ((tollbarlaw0_SameInts.f k t695 (([4, 4, 3] : List Int))).bind fun t727 => (if t727 = true then (if t698 = 7 then ((tollbarlaw0_Num.f t699).bind fun t728 => (if t728 = 0 then (if t710 = 6 then ((tollbarlaw0_Num.f t711).bind fun t729 => (if t729 = 0 then ((tollbarlaw0_Num.f bt719.2.2).bind fun t730 => (some (t730 == 1200))) else (none))) else (none)) else (none))) else (none)) else (none))))) = some r := H; have A4 := ak A40; clear A40; replace H := Option.bind_eq_some_iff.mp H; obtain ⟨⟨t712, t713⟩, A50, H⟩ := H; replace H : ((push_Push.f k t712 t713 (([5, 4, 3] : List Int)) 0 0 6).bind fun bt719 => ((tollbarlaw0_SameInts.f k t695 (([4, 4, 3] : List Int))).bind fun t727 => (if t727 = true then (if t698 = 7 then ((tollbarlaw0_Num.f t699).bind fun t728 => (if t728 = 0 then (if t710 = 6 then ((tollbarlaw0_Num.f t711).bind fun t729 => (if t729 = 0 then ((tollbarlaw0_Num.f bt719.2.2).bind fun t730 => (some (t730 == 1200))) else (none))) else (none)) else (none))) else (none)) else (none)))) = some r := H; have A5 := ak A50; clear A50
 obtain ⟨y716, hy716⟩ : ∃ y_ : List Int, y_ = (([5, 4, 3] : List Int)) := ⟨_, rfl⟩
 replace H : ((push_Push.f k t712 t713 y716 0 0 6).bind fun bt719 => ((tollbarlaw0_SameInts.f k t695 (([4, 4, 3] : List Int))).bind fun t727 => (if t727 = true then (if t698 = 7 then ((tollbarlaw0_Num.f t699).bind fun t728 => (if t728 = 0 then (if t710 = 6 then ((tollbarlaw0_Num.f t711).bind fun t729 => (if t729 = 0 then ((tollbarlaw0_Num.f bt719.2.2).bind fun t730 => (some (t730 == 1200))) else (none))) else (none)) else (none))) else (none)) else (none)))) = some r := by first | (rw [hy716]; with_reducible exact H) | (have H2_ := (Option.bind_some _ _).symm.trans H; rw [hy716]; with_reducible exact H2_) | (have H2_ := (Option.bind_some _ _).symm.trans H; with_reducible exact H2_) | with_reducible exact H | (rw [hy716]; exact H) | exact H
 have Ny716 := ak hy716; clear hy716; replace H := Option.bind_eq_some_iff.mp H; obtain ⟨⟨t719, t722, t723⟩, A60, H⟩ := H; replace H : ((tollbarlaw0_SameInts.f k t695 (([4, 4, 3] : List Int))).bind fun t727 => (if t727 = true then (if t698 = 7 then ((tollbarlaw0_Num.f t699).bind fun t728 => (if t728 = 0 then (if t710 = 6 then ((tollbarlaw0_Num.f t711).bind fun t729 => (if t729 = 0 then ((tollbarlaw0_Num.f t723).bind fun t730 => (some (t730 == 1200))) else (none))) else (none)) else (none))) else (none)) else (none))) = some r := H; have A6 := ak A60; clear A60
 obtain ⟨y724, hy724⟩ : ∃ y_ : List Int, y_ = (([4, 4, 3] : List Int)) := ⟨_, rfl⟩
 replace H : ((tollbarlaw0_SameInts.f k t695 y724).bind fun t727 => (if t727 = true then (if t698 = 7 then ((tollbarlaw0_Num.f t699).bind fun t728 => (if t728 = 0 then (if t710 = 6 then ((tollbarlaw0_Num.f t711).bind fun t729 => (if t729 = 0 then ((tollbarlaw0_Num.f t723).bind fun t730 => (some (t730 == 1200))) else (none))) else (none)) else (none))) else (none)) else (none))) = some r := by first | (rw [hy724]; with_reducible exact H) | (have H2_ := (Option.bind_some _ _).symm.trans H; rw [hy724]; with_reducible exact H2_) | (have H2_ := (Option.bind_some _ _).symm.trans H; with_reducible exact H2_) | with_reducible exact H | (rw [hy724]; exact H) | exact H
 have Ny724 := ak hy724; clear hy724; replace H := Option.bind_eq_some_iff.mp H; obtain ⟨t727, A70, H⟩ := H; replace H : (if t727 = true then (if t698 = 7 then ((tollbarlaw0_Num.f t699).bind fun t728 => (if t728 = 0 then (if t710 = 6 then ((tollbarlaw0_Num.f t711).bind fun t729 => (if t729 = 0 then ((tollbarlaw0_Num.f t723).bind fun t730 => (some (t730 == 1200))) else (none))) else (none)) else (none))) else (none)) else (none)) = some r := H; have A7 := ak A70; clear A70
 by_cases c8 : t727 = true
 ·
  subst c8
  have H1 : (if t698 = 7 then ((tollbarlaw0_Num.f t699).bind fun t728 => (if t728 = 0 then (if t710 = 6 then ((tollbarlaw0_Num.f t711).bind fun t729 => (if t729 = 0 then ((tollbarlaw0_Num.f t723).bind fun t730 => (some (t730 == 1200))) else (none))) else (none)) else (none))) else (none)) = some r := by rw [if_pos rfl] at H; exact H
  clear H; have H := H1; clear H1
  by_cases c9 : t698 = 7
  ·
   rw [if_pos c9] at H; have c9b0 : (t698 == 7) = true := beq_iff_eq.mpr c9; have c9b1 : (t698 != 7) = false := bne_eq_false_iff_eq.mpr c9; clear c9; replace H := Option.bind_eq_some_iff.mp H; obtain ⟨t728, A100, H⟩ := H; replace H : (if t728 = 0 then (if t710 = 6 then ((tollbarlaw0_Num.f t711).bind fun t729 => (if t729 = 0 then ((tollbarlaw0_Num.f t723).bind fun t730 => (some (t730 == 1200))) else (none))) else (none)) else (none)) = some r := H; have A10 := ak A100; clear A100
   by_cases c11 : t728 = 0
   ·
    rw [if_pos c11] at H; have c11b0 : (t728 == 0) = true := beq_iff_eq.mpr c11; have c11b1 : (t728 != 0) = false := bne_eq_false_iff_eq.mpr c11; clear c11
    by_cases c12 : t710 = 6
    ·
     rw [if_pos c12] at H; have c12b0 : (t710 == 6) = true := beq_iff_eq.mpr c12; have c12b1 : (t710 != 6) = false := bne_eq_false_iff_eq.mpr c12; clear c12; replace H := Option.bind_eq_some_iff.mp H; obtain ⟨t729, A130, H⟩ := H; replace H : (if t729 = 0 then ((tollbarlaw0_Num.f t723).bind fun t730 => (some (t730 == 1200))) else (none)) = some r := H; have A13 := ak A130; clear A130
     by_cases c14 : t729 = 0
     ·
      rw [if_pos c14] at H; have c14b0 : (t729 == 0) = true := beq_iff_eq.mpr c14; have c14b1 : (t729 != 0) = false := bne_eq_false_iff_eq.mpr c14; clear c14; replace H := Option.bind_eq_some_iff.mp H; obtain ⟨t730, A150, H⟩ := H; replace H : (some (t730 == 1200)) = some r := H; have A15 := ak A150; clear A150; obtain rfl := Option.some.inj H
      go_enter Try.func31, Try.ntmps31
      go_wp2_with (first | ((with_reducible refine gate_callee (f := 55) rfl ?_); refine gl 11 Try.func55 #[] ?_; (with_reducible refine (tollbarlaw12_small.calls  t688 t689 _ A1.out).mono ?_); rintro e w16 ⟨v690, rfl, ho0, hb⟩; refine ⟨_, rfl, ?_⟩; have HO691 := ak (Kd.R_lower ho0 (below_size HB.out)); replace HB := ak (below_step HB.out hb); (try clear hb); (try clear hb2); (try clear hk); (try clear hi); (try clear ho0)) | ((with_reducible refine gate_dst (N := 12) rfl ?_); refine Kd.R_lit (Kd.int .i64) _ 3 ?hg (N := 12) ?hd (xs := ([5, 4, 3] : List Int)) (inner := [.int .i64 5, .int .i64 4, .int .i64 3]) (ok := fun _ => True) (okp := fun _ => True) ?hr ?hp (fun _ hk => hk) trivial (Below.refl _ _) (Nat.le_refl _) (by simp) ?_; (case hd => rfl); (case hg => rfl); (case hr => first | (go_simp; done) | (go_simp; rfl)); (case hp => exact (Reps.one (show Kd.M (Kd.int .i64) _ _ _ 5 [.int .i64 5] from rfl) (Reps.one (show Kd.M (Kd.int .i64) _ _ _ 4 [.int .i64 4] from rfl) (Reps.one (show Kd.M (Kd.int .i64) _ _ _ 3 [.int .i64 3] from rfl) (Reps.none _ _))))); intro v693 w17 ho18 hb hg_ hnew_; clear hg_ hnew_; (first | rw [← Ny692.out] at ho18 | (simp only [Int.reduceToNat] at ho18; rw [← Ny692.out] at ho18)); replace HO691 := ak (Kd.R_below HO691.out hb); have HO694 := ak (Kd.R_lower ho18 (below_size HB.out)); replace HB := ak (below_step HB.out hb); clear hb ho18; obtain ⟨Ao19, co19, eo19⟩ := Kd.R_slice HO691.out; subst eo19; obtain ⟨Ao20, co20, eo20⟩ := Kd.R_slice HO694.out; subst eo20) | ((with_reducible refine gate_callee (f := 29) rfl ?_); refine gl 13 Try.func29 #[.agg #[.int .i64 t688, .slice Ao19 t689.length co19], .slice Ao20 y692.length co20, .int .i64 0, .int .i64 2, .int .i64 9] ?_; (with_reducible refine (push_Push.calls k t688 _ _ t689 _ _ y692 0 2 9 t695 t698 t699 _ ?side1 ?side2 ?side3 ?side4 A2.out).mono ?_); (case side1 => exact (Kd.R_reads' HO691.out).2.2); (case side2 => exact (Kd.R_reads' HO691.out).2.1); (case side3 => exact (Kd.R_reads' HO694.out).2.2); (case side4 => exact (Kd.R_reads' HO694.out).2.1); rintro e w21 ⟨v696, rfl, ho0, hb⟩; refine ⟨_, rfl, ?_⟩; replace HO691 := ak (Kd.R_below HO691.out hb); have HO697 := ak (Kd.R_lower (Kd.R_new' ho0 (Kd.R_lt HO694.out)) (below_size HB.out)); replace HO694 := ak (Kd.R_elder' HO694.out (Kd.R_base ho0) hb); replace HB := ak (below_step HB.out hb); (try clear hb); (try clear hb2); (try clear hk); (try clear hi); (try clear ho0)) | ((with_reducible refine gate_callee (f := 55) rfl ?_); refine gl 18 Try.func55 #[] ?_; (with_reducible refine (tollbarlaw12_small.calls  t700 t701 _ A3.out).mono ?_); rintro e w22 ⟨v702, rfl, ho0, hb⟩; refine ⟨_, rfl, ?_⟩; replace HO694 := ak (Kd.R_below HO694.out hb); replace HO697 := ak (Kd.R_below HO697.out hb); have HO703 := ak (Kd.R_lower (Kd.R_new' ho0 (Kd.R_lt HO691.out)) (below_size HB.out)); replace HO691 := ak (Kd.R_elder' HO691.out (Kd.R_base ho0) hb); replace HB := ak (below_step HB.out hb); (try clear hb); (try clear hb2); (try clear hk); (try clear hi); (try clear ho0)) | ((with_reducible refine gate_dst (N := 19) rfl ?_); refine Kd.R_lit (Kd.int .i64) _ 3 ?hg (N := 19) ?hd (xs := ([5, 4, 3] : List Int)) (inner := [.int .i64 5, .int .i64 4, .int .i64 3]) (ok := fun _ => True) (okp := fun _ => True) ?hr ?hp (fun _ hk => hk) trivial (Below.refl _ _) (Nat.le_refl _) (by simp) ?_; (case hd => rfl); (case hg => rfl); (case hr => first | (go_simp; done) | (go_simp; rfl)); (case hp => exact (Reps.one (show Kd.M (Kd.int .i64) _ _ _ 5 [.int .i64 5] from rfl) (Reps.one (show Kd.M (Kd.int .i64) _ _ _ 4 [.int .i64 4] from rfl) (Reps.one (show Kd.M (Kd.int .i64) _ _ _ 3 [.int .i64 3] from rfl) (Reps.none _ _))))); intro v705 w23 ho24 hb hg_ hnew_; clear hg_ hnew_; (first | rw [← Ny704.out] at ho24 | (simp only [Int.reduceToNat] at ho24; rw [← Ny704.out] at ho24)); replace HO691 := ak (Kd.R_below HO691.out hb); replace HO703 := ak (Kd.R_below HO703.out hb); have HO706 := ak (Kd.R_lower (Kd.R_new' (Kd.R_new' ho24 (Kd.R_lt HO694.out)) (Kd.R_lt HO697.out)) (below_size HB.out)); replace HO694 := ak (Kd.R_elder' HO694.out (Kd.R_base ho24) hb); replace HO697 := ak (Kd.R_elder' HO697.out (Kd.R_base ho24) hb); replace HB := ak (below_step HB.out hb); clear hb ho24; obtain ⟨Ao25, co25, eo25⟩ := Kd.R_slice HO703.out; subst eo25; obtain ⟨Ao26, co26, eo26⟩ := Kd.R_slice HO706.out; subst eo26) | ((with_reducible refine gate_callee (f := 29) rfl ?_); refine gl 20 Try.func29 #[.agg #[.int .i64 t700, .slice Ao25 t701.length co25], .slice Ao26 y704.length co26, .int .i64 0, .int .i64 2, .int .i64 6] ?_; (with_reducible refine (push_Push.calls k t700 _ _ t701 _ _ y704 0 2 6 t707 t710 t711 _ ?side1 ?side2 ?side3 ?side4 A4.out).mono ?_); (case side1 => exact (Kd.R_reads' HO703.out).2.2); (case side2 => exact (Kd.R_reads' HO703.out).2.1); (case side3 => exact (Kd.R_reads' HO706.out).2.2); (case side4 => exact (Kd.R_reads' HO706.out).2.1); rintro e w27 ⟨v708, rfl, ho0, hb⟩; refine ⟨_, rfl, ?_⟩; replace HO691 := ak (Kd.R_below HO691.out hb); replace HO703 := ak (Kd.R_below HO703.out hb); have HO709 := ak (Kd.R_lower (Kd.R_new' (Kd.R_new' (Kd.R_new' ho0 (Kd.R_lt HO694.out)) (Kd.R_lt HO697.out)) (Kd.R_lt HO706.out)) (below_size HB.out)); replace HO694 := ak (Kd.R_elder' HO694.out (Kd.R_base ho0) hb); replace HO697 := ak (Kd.R_elder' HO697.out (Kd.R_base ho0) hb); replace HO706 := ak (Kd.R_elder' HO706.out (Kd.R_base ho0) hb); replace HB := ak (below_step HB.out hb); (try clear hb); (try clear hb2); (try clear hk); (try clear hi); (try clear ho0)) | ((with_reducible refine gate_callee (f := 55) rfl ?_); refine gl 25 Try.func55 #[] ?_; (with_reducible refine (tollbarlaw12_small.calls  t712 t713 _ A5.out).mono ?_); rintro e w28 ⟨v714, rfl, ho0, hb⟩; refine ⟨_, rfl, ?_⟩; replace HO694 := ak (Kd.R_below HO694.out hb); replace HO697 := ak (Kd.R_below HO697.out hb); replace HO706 := ak (Kd.R_below HO706.out hb); replace HO709 := ak (Kd.R_below HO709.out hb); have HO715 := ak (Kd.R_lower (Kd.R_new' (Kd.R_new' ho0 (Kd.R_lt HO691.out)) (Kd.R_lt HO703.out)) (below_size HB.out)); replace HO691 := ak (Kd.R_elder' HO691.out (Kd.R_base ho0) hb); replace HO703 := ak (Kd.R_elder' HO703.out (Kd.R_base ho0) hb); replace HB := ak (below_step HB.out hb); (try clear hb); (try clear hb2); (try clear hk); (try clear hi); (try clear ho0)) | ((with_reducible refine gate_dst (N := 26) rfl ?_); refine Kd.R_lit (Kd.int .i64) _ 3 ?hg (N := 26) ?hd (xs := ([5, 4, 3] : List Int)) (inner := [.int .i64 5, .int .i64 4, .int .i64 3]) (ok := fun _ => True) (okp := fun _ => True) ?hr ?hp (fun _ hk => hk) trivial (Below.refl _ _) (Nat.le_refl _) (by simp) ?_; (case hd => rfl); (case hg => rfl); (case hr => first | (go_simp; done) | (go_simp; rfl)); (case hp => exact (Reps.one (show Kd.M (Kd.int .i64) _ _ _ 5 [.int .i64 5] from rfl) (Reps.one (show Kd.M (Kd.int .i64) _ _ _ 4 [.int .i64 4] from rfl) (Reps.one (show Kd.M (Kd.int .i64) _ _ _ 3 [.int .i64 3] from rfl) (Reps.none _ _))))); intro v717 w29 ho30 hb hg_ hnew_; clear hg_ hnew_; (first | rw [← Ny716.out] at ho30 | (simp only [Int.reduceToNat] at ho30; rw [← Ny716.out] at ho30)); replace HO691 := ak (Kd.R_below HO691.out hb); replace HO703 := ak (Kd.R_below HO703.out hb); replace HO715 := ak (Kd.R_below HO715.out hb); have HO718 := ak (Kd.R_lower (Kd.R_new' (Kd.R_new' (Kd.R_new' (Kd.R_new' ho30 (Kd.R_lt HO694.out)) (Kd.R_lt HO697.out)) (Kd.R_lt HO706.out)) (Kd.R_lt HO709.out)) (below_size HB.out)); replace HO694 := ak (Kd.R_elder' HO694.out (Kd.R_base ho30) hb); replace HO697 := ak (Kd.R_elder' HO697.out (Kd.R_base ho30) hb); replace HO706 := ak (Kd.R_elder' HO706.out (Kd.R_base ho30) hb); replace HO709 := ak (Kd.R_elder' HO709.out (Kd.R_base ho30) hb); replace HB := ak (below_step HB.out hb); clear hb ho30; obtain ⟨Ao31, co31, eo31⟩ := Kd.R_slice HO715.out; subst eo31; obtain ⟨Ao32, co32, eo32⟩ := Kd.R_slice HO718.out; subst eo32) | ((with_reducible refine gate_callee (f := 29) rfl ?_); refine gl 27 Try.func29 #[.agg #[.int .i64 t712, .slice Ao31 t713.length co31], .slice Ao32 y716.length co32, .int .i64 0, .int .i64 0, .int .i64 6] ?_; (with_reducible refine (push_Push.calls k t712 _ _ t713 _ _ y716 0 0 6 t719 t722 t723 _ ?side1 ?side2 ?side3 ?side4 A6.out).mono ?_); (case side1 => exact (Kd.R_reads' HO715.out).2.2); (case side2 => exact (Kd.R_reads' HO715.out).2.1); (case side3 => exact (Kd.R_reads' HO718.out).2.2); (case side4 => exact (Kd.R_reads' HO718.out).2.1); rintro e w33 ⟨v720, rfl, ho0, hb⟩; refine ⟨_, rfl, ?_⟩; replace HO691 := ak (Kd.R_below HO691.out hb); replace HO703 := ak (Kd.R_below HO703.out hb); replace HO715 := ak (Kd.R_below HO715.out hb); have HO721 := ak (Kd.R_lower (Kd.R_new' (Kd.R_new' (Kd.R_new' (Kd.R_new' (Kd.R_new' ho0 (Kd.R_lt HO694.out)) (Kd.R_lt HO697.out)) (Kd.R_lt HO706.out)) (Kd.R_lt HO709.out)) (Kd.R_lt HO718.out)) (below_size HB.out)); replace HO694 := ak (Kd.R_elder' HO694.out (Kd.R_base ho0) hb); replace HO697 := ak (Kd.R_elder' HO697.out (Kd.R_base ho0) hb); replace HO706 := ak (Kd.R_elder' HO706.out (Kd.R_base ho0) hb); replace HO709 := ak (Kd.R_elder' HO709.out (Kd.R_base ho0) hb); replace HO718 := ak (Kd.R_elder' HO718.out (Kd.R_base ho0) hb); replace HB := ak (below_step HB.out hb); (try clear hb); (try clear hb2); (try clear hk); (try clear hi); (try clear ho0)) | ((with_reducible refine gate_dst (N := 32) rfl ?_); refine Kd.R_lit (Kd.int .i64) _ 3 ?hg (N := 32) ?hd (xs := ([4, 4, 3] : List Int)) (inner := [.int .i64 4, .int .i64 4, .int .i64 3]) (ok := fun _ => True) (okp := fun _ => True) ?hr ?hp (fun _ hk => hk) trivial (Below.refl _ _) (Nat.le_refl _) (by simp) ?_; (case hd => rfl); (case hg => rfl); (case hr => first | (go_simp; done) | (go_simp; rfl)); (case hp => exact (Reps.one (show Kd.M (Kd.int .i64) _ _ _ 4 [.int .i64 4] from rfl) (Reps.one (show Kd.M (Kd.int .i64) _ _ _ 4 [.int .i64 4] from rfl) (Reps.one (show Kd.M (Kd.int .i64) _ _ _ 3 [.int .i64 3] from rfl) (Reps.none _ _))))); intro v725 w34 ho35 hb hg_ hnew_; clear hg_ hnew_; (first | rw [← Ny724.out] at ho35 | (simp only [Int.reduceToNat] at ho35; rw [← Ny724.out] at ho35)); replace HO691 := ak (Kd.R_below HO691.out hb); replace HO703 := ak (Kd.R_below HO703.out hb); replace HO715 := ak (Kd.R_below HO715.out hb); have HO726 := ak (Kd.R_lower (Kd.R_new' (Kd.R_new' (Kd.R_new' (Kd.R_new' (Kd.R_new' (Kd.R_new' ho35 (Kd.R_lt HO694.out)) (Kd.R_lt HO697.out)) (Kd.R_lt HO706.out)) (Kd.R_lt HO709.out)) (Kd.R_lt HO718.out)) (Kd.R_lt HO721.out)) (below_size HB.out)); replace HO694 := ak (Kd.R_elder' HO694.out (Kd.R_base ho35) hb); replace HO697 := ak (Kd.R_elder' HO697.out (Kd.R_base ho35) hb); replace HO706 := ak (Kd.R_elder' HO706.out (Kd.R_base ho35) hb); replace HO709 := ak (Kd.R_elder' HO709.out (Kd.R_base ho35) hb); replace HO718 := ak (Kd.R_elder' HO718.out (Kd.R_base ho35) hb); replace HO721 := ak (Kd.R_elder' HO721.out (Kd.R_base ho35) hb); replace HB := ak (below_step HB.out hb); clear hb ho35; obtain ⟨Ao36, co36, eo36⟩ := Kd.R_slice HO697.out; subst eo36; obtain ⟨Ao37, co37, eo37⟩ := Kd.R_slice HO726.out; subst eo37) | ((with_reducible refine gate_callee (f := 25) rfl ?_); refine gl 33 Try.func25 #[.slice Ao36 t695.length co36, .slice Ao37 y724.length co37] ?_; (with_reducible refine (tollbarlaw0_SameInts.calls k _ _ t695 _ _ y724 true _ ?side1 ?side2 ?side3 ?side4 A7.out).mono ?_); (case side1 => exact (Kd.R_reads' HO697.out).2.2); (case side2 => exact (Kd.R_reads' HO697.out).2.1); (case side3 => exact (Kd.R_reads' HO726.out).2.2); (case side4 => exact (Kd.R_reads' HO726.out).2.1); rintro e w' ⟨rfl, ⟨nd, rfl⟩⟩; refine ⟨_, rfl, ?_⟩) | (go_at_call 18; (with_reducible refine (tollbarlaw0_Num.calls t699 t728 _ A10.out).mono ?_); rintro e w' ⟨rfl, ⟨nd, rfl⟩⟩) | (go_at_call 18; (with_reducible refine (tollbarlaw0_Num.calls t711 t729 _ A13.out).mono ?_); rintro e w' ⟨rfl, ⟨nd, rfl⟩⟩) | (go_at_call 18; (with_reducible refine (tollbarlaw0_Num.calls t723 t730 _ A15.out).mono ?_); rintro e w' ⟨rfl, ⟨nd, rfl⟩⟩))
      go_ret
      exact ⟨by first | rfl | (simp [errW_none, errW_some] <;> rfl) | (simp [*, errW_none, errW_some] <;> rfl), bq0 HB.out⟩
     ·
      rw [if_neg c14] at H; exact absurd H (by simp)
    ·
     rw [if_neg c12] at H; exact absurd H (by simp)
   ·
    rw [if_neg c11] at H; exact absurd H (by simp)
  ·
   rw [if_neg c9] at H; exact absurd H (by simp)
 ·
  replace c8 := Bool.eq_false_iff.mpr c8; subst c8
  have H1 : (none) = some r := by rw [if_neg (show ¬ (false = true) by decide)] at H; exact H
  clear H; have H := H1; clear H1; exact absurd H (by simp)
mutual
def tollbarlaw12_Pushes.j0 : Nat → List Int → Int → Int → Int → List Int → List Int → Int → Int → Bool → Int → List (S53) → Option (Bool)
 | 0, _, _, _, _, _, _, _, _, _, _, _ => none
 | k + 1, x1, x2, x3, x4, x11, x12, x13, x14, x41, xkb, xka => if x41 = true then ((tollbarlaw12_awake.f k).bind fun t741 => (if t741 = true then ((tollbarlaw0_Num.f x14).bind fun t742 => (if t742 = 1200 then (if (x12.length : Int) = 0 then (some (x13 == 0)) else (none)) else (none))) else (none))) else ((tollbarref4_Least.f k xkb xka x1 x2 x3).bind fun t743 => (if x4 < t743 then (tollbarlaw12_Pushes.j1 k x1 x2 x3 x11 x12 x13 x14 x4 xkb xka) else (tollbarlaw12_Pushes.j1 k x1 x2 x3 x11 x12 x13 x14 t743 xkb xka)))
def tollbarlaw12_Pushes.j1 : Nat → List Int → Int → Int → List Int → List Int → Int → Int → Int → Int → List (S53) → Option (Bool)
 | 0, _, _, _, _, _, _, _, _, _, _ => none
 | k + 1, x1, x2, x3, x11, x12, x13, x14, x15, xkb, xka => (tollbarlaw12_awake.f k).bind fun t744 => (if t744 = true then ((tollbarlaw0_Num.f x14).bind fun t745 => (if t745 = 0 then ((tollbarref4_FlowMay.f k xkb xka x1 x12 x2 x3).bind fun t746 => (if t746 = true then (if x13 = x15 then ((tollbarref4_Gain.f k xkb xka x12 x2).bind fun t747 => (if t747 = x13 then ((tollbarlaw0_KeptInts.f k x11 x1).bind fun t748 => (some t748)) else (none))) else (none)) else (none))) else (none))) else (none))
end
def tollbarlaw12_Pushes.f (k : Nat) (a0_0 : Int) (l0_1 : List (S53)) (l1 : List Int) (a2 : Int) (a3 : Int) (a4 : Int) : Option (Bool) := (tollbarlaw0_LendInts.f l1).bind fun t732 => ((push_Push.f k a0_0 l0_1 t732 a2 a3 a4).bind fun bt735 => ((tollbarlaw12_fine.f k a0_0 l0_1 l1 a2 a3).bind fun t740 => (if t740 = true then (if a4 < 0 then (tollbarlaw12_Pushes.j0 k l1 a2 a3 a4 t732 bt735.1 bt735.2.1 bt735.2.2 true a0_0 l0_1) else (tollbarlaw12_Pushes.j0 k l1 a2 a3 a4 t732 bt735.1 bt735.2.1 bt735.2.2 (decide (a4 > 4611686018427387904)) a0_0 l0_1)) else (tollbarlaw12_Pushes.j0 k l1 a2 a3 a4 t732 bt735.1 bt735.2.1 bt735.2.2 true a0_0 l0_1))))
theorem tollbarlaw12_Pushes.calls (k : Nat) (a0_0 : Int) (A0_1 : Option Addr) (c0_1 : Nat) (l0_1 : List (S53)) (A1 : Option Addr) (c1 : Nat) (l1 : List Int) (a2 : Int) (a3 : Int) (a4 : Int) (r : Bool) (w : World) (hr0_1 : Kd.C k53 w A0_1 l0_1.length l0_1) (hc0_1 : l0_1.length ≤ c0_1) (hr1 : Kd.C (Kd.int .i64) w A1 l1.length l1) (hc1 : l1.length ≤ c1) (h : tollbarlaw12_Pushes.f k a0_0 l0_1 l1 a2 a3 a4 = some r) :
  Calls Try.prog 8 #[.agg #[.int .i64 a0_0, .slice A0_1 l0_1.length c0_1], .slice A1 l1.length c1, .int .i64 a2, .int .i64 a3, .int .i64 a4] w fun e w' => e = .returned (.bool r) ∧ Below w.heap.size w w' := by
 have hu24 := Try.underlying24; have HR0_1 := ak hr0_1; have HC0_1 := ak hc0_1; clear hr0_1 hc0_1; have HR1 := ak hr1; have HC1 := ak hc1; clear hr1 hc1; have HB := ak (Below.refl w.heap.size w); have H : ((tollbarlaw0_LendInts.f l1).bind fun t732 => ((push_Push.f k a0_0 l0_1 t732 a2 a3 a4).bind fun bt735 => ((tollbarlaw12_fine.f k a0_0 l0_1 l1 a2 a3).bind fun t740 => (if t740 = true then (if a4 < 0 then (tollbarlaw12_Pushes.j0 k l1 a2 a3 a4 t732 bt735.1 bt735.2.1 bt735.2.2 true a0_0 l0_1) else (tollbarlaw12_Pushes.j0 k l1 a2 a3 a4 t732 bt735.1 bt735.2.1 bt735.2.2 (decide (a4 > 4611686018427387904)) a0_0 l0_1)) else (tollbarlaw12_Pushes.j0 k l1 a2 a3 a4 t732 bt735.1 bt735.2.1 bt735.2.2 true a0_0 l0_1))))) = some r := h; clear h; replace H := Option.bind_eq_some_iff.mp H; obtain ⟨t732, A60, H⟩ := H; replace H : ((push_Push.f k a0_0 l0_1 t732 a2 a3 a4).bind fun bt735 => ((tollbarlaw12_fine.f k a0_0 l0_1 l1 a2 a3).bind fun t740 => (if t740 = true then (if a4 < 0 then (tollbarlaw12_Pushes.j0 k l1 a2 a3 a4 t732 bt735.1 bt735.2.1 bt735.2.2 true a0_0 l0_1) else (tollbarlaw12_Pushes.j0 k l1 a2 a3 a4 t732 bt735.1 bt735.2.1 bt735.2.2 (decide (a4 > 4611686018427387904)) a0_0 l0_1)) else (tollbarlaw12_Pushes.j0 k l1 a2 a3 a4 t732 bt735.1 bt735.2.1 bt735.2.2 true a0_0 l0_1)))) = some r := H; have A6 := ak A60; clear A60; replace H := Option.bind_eq_some_iff.mp H; obtain ⟨⟨t735, t738, t739⟩, A70, H⟩ := H; replace H : ((tollbarlaw12_fine.f k a0_0 l0_1 l1 a2 a3).bind fun t740 => (if t740 = true then (if a4 < 0 then (tollbarlaw12_Pushes.j0 k l1 a2 a3 a4 t732 t735 t738 t739 true a0_0 l0_1) else (tollbarlaw12_Pushes.j0 k l1 a2 a3 a4 t732 t735 t738 t739 (decide (a4 > 4611686018427387904)) a0_0 l0_1)) else (tollbarlaw12_Pushes.j0 k l1 a2 a3 a4 t732 t735 t738 t739 true a0_0 l0_1))) = some r := H; have A7 := ak A70; clear A70; have HC8 := ak H; clear H
 go_enter Try.func8, Try.ntmps8
 go_upto_region 3 with (first | ((with_reducible refine gate_dst (N := 5) rfl ?_); (try (refine gate_guard (by rfl) ?_; dsimp only)); refine box_event ?hg (N := 5) ?hd (cs := #[.int .i64 a0_0, .slice A0_1 l0_1.length c0_1]) (t := 24) ?hr ?_; (case hd => rfl); (case hg => rfl); (case hr => first | (go_simp; done) | (go_simp; rfl)); intro gb731 hg w9 hbox hb; have BK731 := ak (hbox); have GW731 := ak ((by rw [hg]; exact (below_size HB.out) : w.heap.size ≤ gb731)); have GE731 := ak ((by rw [hg]; exact (below_size HB.out) : w.heap.size ≤ gb731)); replace HB := ak (below_step HB.out hb); clear hb hbox hg) | ((with_reducible refine gate_callee (f := 14) rfl ?_); refine gl 17 Try.func14 #[.slice A1 l1.length c1] ?_; (with_reducible refine (tollbarlaw0_LendInts.calls _ _ l1 t732 _ ?side1 ?side2 A6.out).mono ?_); (case side1 => exact (Kd.C_below HR1.out HB.out)); (case side2 => exact HC1.out); rintro e w10 ⟨v733, rfl, hk0, hb⟩; obtain ⟨v733f, hvv733, ho0⟩ := kept_v hk0; clear hk0; refine ⟨_, rfl, ?_⟩; have HO734 := ak (Kd.R_lower ho0 (below_size HB.out)); replace BK731 := ak (blk_below BK731.out hb); replace HB := ak (below_step HB.out hb); (try clear hb); (try clear hb2); (try clear hk); (try clear hi); (try clear ho0); have hcz11_0 := bkat BK731.out 0; have hcz11_1 := bkat BK731.out 1; have hfz11_0 := blk_frozen BK731.out 0; have hfz11_1 := blk_frozen BK731.out 1; obtain ⟨Ao12, co12, eo12⟩ := Kd.R_slice HO734.out; replace hvv733 := hvv733 _ _ eo12; subst eo12; subst hvv733) | ((with_reducible refine gate_callee (f := 29) rfl ?_); refine gl 24 Try.func29 #[.agg #[.int .i64 a0_0, .slice A0_1 l0_1.length c0_1], .slice Ao12 t732.length co12, .int .i64 a2, .int .i64 a3, .int .i64 a4] ?_; (with_reducible refine (push_Push.calls k a0_0 _ _ l0_1 _ _ t732 a2 a3 a4 t735 t738 t739 _ ?side1 ?side2 ?side3 ?side4 A7.out).mono ?_); (case side1 => exact (Kd.C_below HR0_1.out HB.out)); (case side2 => exact HC0_1.out); (case side3 => exact (kept_c (Kd.R_reads' HO734.out).2.2)); (case side4 => exact (kept_le (Kd.R_reads' HO734.out).2.1)); rintro e w13 ⟨v736, rfl, ho0, hb⟩; refine ⟨_, rfl, ?_⟩; have HO737 := ak (Kd.R_lower (Kd.R_new' ho0 (Kd.R_lt HO734.out)) (below_size HB.out)); replace HO734 := ak (Kd.R_elder' HO734.out (Kd.R_base ho0) hb); replace BK731 := ak (blk_below BK731.out hb); replace HB := ak (below_step HB.out hb); (try clear hb); (try clear hb2); (try clear hk); (try clear hi); (try clear ho0)))
 (try simp only [Act.put, List.setIfInBounds_toArray, List.set_cons_zero, List.set_cons_succ])
 go_cut [41] (fun v41 wc => ∃ (kq : Nat) (x41_7 : Bool), v41 = .bool x41_7 ∧ Aside0 (tollbarlaw12_Pushes.j0 kq l1 a2 a3 a4 t732 t735 t738 t739 x41_7 a0_0 l0_1 = some r) ∧ Aside0 (kq ≤ k) ∧ Aside0 (Kd.R (Kd.int .i64) 3 wc w.heap.size (fun k_ => some k_ ≠ (v736 : Value).ownBlock) (.slice Ao12 (t732 ++ kz).length co12) (t732 ++ kz)) ∧ Aside0 (Kd.R (Kd.int .i64) 3 wc w.heap.size (fun k_ => some k_ ≠ ((.slice Ao12 (t732 ++ kz).length co12) : Value).ownBlock) v736 t735) ∧ Aside0 (wc.heap[gb731]? = some (.cells #[.int .i64 a0_0, (.slice A0_1 l0_1.length c0_1)] 24 (0, 0))) ∧ Aside0 (Below w.heap.size w wc))
 case first =>
  have H := HC8.out; clear HC8; replace H := Option.bind_eq_some_iff.mp H; obtain ⟨t740, A140, H⟩ := H; replace H : (if t740 = true then (if a4 < 0 then (tollbarlaw12_Pushes.j0 k l1 a2 a3 a4 t732 t735 t738 t739 true a0_0 l0_1) else (tollbarlaw12_Pushes.j0 k l1 a2 a3 a4 t732 t735 t738 t739 (decide (a4 > 4611686018427387904)) a0_0 l0_1)) else (tollbarlaw12_Pushes.j0 k l1 a2 a3 a4 t732 t735 t738 t739 true a0_0 l0_1)) = some r := H; have A14 := ak A140; clear A140
  by_cases c15 : t740 = true
  ·
   subst c15
   have H1 : (if a4 < 0 then (tollbarlaw12_Pushes.j0 k l1 a2 a3 a4 t732 t735 t738 t739 true a0_0 l0_1) else (tollbarlaw12_Pushes.j0 k l1 a2 a3 a4 t732 t735 t738 t739 (decide (a4 > 4611686018427387904)) a0_0 l0_1)) = some r := by rw [if_pos rfl] at H; exact H
   clear H; have H := H1; clear H1
   by_cases c16 : a4 < 0
   ·
    rw [if_pos c16] at H; have c16b0 : decide (a4 < 0) = true := decide_eq_true c16; clear c16; (first | rw [c16b0] | (simp only [i64_w, i32_w]; rw [c16b0]) | skip); have H' := ak H; clear H; have hcz17_0 := bkat BK731.out 0; have hcz17_1 := bkat BK731.out 1; have hfz17_0 := blk_frozen BK731.out 0; have hfz17_1 := blk_frozen BK731.out 1
    go_wp2_with (first | ((with_reducible refine gate_callee (f := 30) rfl ?_); refine gl 32 Try.func30 #[.agg #[.int .i64 a0_0, .slice A0_1 l0_1.length c0_1], .slice A1 l1.length c1, .int .i64 a2, .int .i64 a3] ?_; (with_reducible refine (tollbarlaw12_fine.calls k a0_0 _ _ l0_1 _ _ l1 a2 a3 true _ ?side1 ?side2 ?side3 ?side4 A14.out).mono ?_); (case side1 => exact (Kd.C_below HR0_1.out HB.out)); (case side2 => exact HC0_1.out); (case side3 => exact (Kd.C_below HR1.out HB.out)); (case side4 => exact HC1.out); rintro e w18 ⟨rfl, hb⟩; refine ⟨_, rfl, ?_⟩; replace HO734 := ak (Kd.R_below HO734.out hb); replace HO737 := ak (Kd.R_below HO737.out hb); replace BK731 := ak (blk_below BK731.out hb); replace HB := ak (below_step HB.out hb); (try clear hb); (try clear hb2); (try clear hk); (try clear hi)))
    go_meet
    case rel => exact ⟨_, (true), (by first | rfl | (simp; done) | (simp [*]; done)), H', ⟨by first | omega | exact Nat.le_refl _⟩, ⟨by (with_reducible repeat (first | apply Kd.R_alloc | apply Kd.R_drewN | apply Kd.R_drew)); exact Kd.R_mono HO734.out (fun _ hk => hk.2)⟩, ⟨by (with_reducible repeat (first | apply Kd.R_alloc | apply Kd.R_drewN | apply Kd.R_drew)); exact Kd.R_mono HO737.out (fun _ hk => hk.2)⟩, ⟨BK731.out⟩, ⟨HB.out⟩⟩
   ·
    rw [if_neg c16] at H; have c16b0 : decide (a4 < 0) = false := decide_eq_false c16; clear c16; (first | rw [c16b0] | (simp only [i64_w, i32_w]; rw [c16b0]) | skip); have H' := ak H; clear H; have hcz19_0 := bkat BK731.out 0; have hcz19_1 := bkat BK731.out 1; have hfz19_0 := blk_frozen BK731.out 0; have hfz19_1 := blk_frozen BK731.out 1
    go_wp2_with (first | ((with_reducible refine gate_callee (f := 30) rfl ?_); refine gl 32 Try.func30 #[.agg #[.int .i64 a0_0, .slice A0_1 l0_1.length c0_1], .slice A1 l1.length c1, .int .i64 a2, .int .i64 a3] ?_; (with_reducible refine (tollbarlaw12_fine.calls k a0_0 _ _ l0_1 _ _ l1 a2 a3 true _ ?side1 ?side2 ?side3 ?side4 A14.out).mono ?_); (case side1 => exact (Kd.C_below HR0_1.out HB.out)); (case side2 => exact HC0_1.out); (case side3 => exact (Kd.C_below HR1.out HB.out)); (case side4 => exact HC1.out); rintro e w20 ⟨rfl, hb⟩; refine ⟨_, rfl, ?_⟩; replace HO734 := ak (Kd.R_below HO734.out hb); replace HO737 := ak (Kd.R_below HO737.out hb); replace BK731 := ak (blk_below BK731.out hb); replace HB := ak (below_step HB.out hb); (try clear hb); (try clear hb2); (try clear hk); (try clear hi)))
    go_meet
    case rel => exact ⟨_, (decide (a4 > 4611686018427387904)), (by first | rfl | (simp; done) | (simp [*]; done)), H', ⟨by first | omega | exact Nat.le_refl _⟩, ⟨by (with_reducible repeat (first | apply Kd.R_alloc | apply Kd.R_drewN | apply Kd.R_drew)); exact Kd.R_mono HO734.out (fun _ hk => hk.2)⟩, ⟨by (with_reducible repeat (first | apply Kd.R_alloc | apply Kd.R_drewN | apply Kd.R_drew)); exact Kd.R_mono HO737.out (fun _ hk => hk.2)⟩, ⟨BK731.out⟩, ⟨HB.out⟩⟩
  ·
   replace c15 := Bool.eq_false_iff.mpr c15; subst c15
   have H1 : (tollbarlaw12_Pushes.j0 k l1 a2 a3 a4 t732 t735 t738 t739 true a0_0 l0_1) = some r := by rw [if_neg (show ¬ (false = true) by decide)] at H; exact H
   clear H; have H := H1; clear H1; have H' := ak H; clear H; have hcz21_0 := bkat BK731.out 0; have hcz21_1 := bkat BK731.out 1; have hfz21_0 := blk_frozen BK731.out 0; have hfz21_1 := blk_frozen BK731.out 1
   go_wp2_with (first | ((with_reducible refine gate_callee (f := 30) rfl ?_); refine gl 32 Try.func30 #[.agg #[.int .i64 a0_0, .slice A0_1 l0_1.length c0_1], .slice A1 l1.length c1, .int .i64 a2, .int .i64 a3] ?_; (with_reducible refine (tollbarlaw12_fine.calls k a0_0 _ _ l0_1 _ _ l1 a2 a3 false _ ?side1 ?side2 ?side3 ?side4 A14.out).mono ?_); (case side1 => exact (Kd.C_below HR0_1.out HB.out)); (case side2 => exact HC0_1.out); (case side3 => exact (Kd.C_below HR1.out HB.out)); (case side4 => exact HC1.out); rintro e w22 ⟨rfl, hb⟩; refine ⟨_, rfl, ?_⟩; replace HO734 := ak (Kd.R_below HO734.out hb); replace HO737 := ak (Kd.R_below HO737.out hb); replace BK731 := ak (blk_below BK731.out hb); replace HB := ak (below_step HB.out hb); (try clear hb); (try clear hb2); (try clear hk); (try clear hi)))
   go_meet
   case rel => exact ⟨_, (true), (by first | rfl | (simp; done) | (simp [*]; done)), H', ⟨by first | omega | exact Nat.le_refl _⟩, ⟨by (with_reducible repeat (first | apply Kd.R_alloc | apply Kd.R_drewN | apply Kd.R_drew)); exact Kd.R_mono HO734.out (fun _ hk => hk.2)⟩, ⟨by (with_reducible repeat (first | apply Kd.R_alloc | apply Kd.R_drewN | apply Kd.R_drew)); exact Kd.R_mono HO737.out (fun _ hk => hk.2)⟩, ⟨BK731.out⟩, ⟨HB.out⟩⟩
 case rest =>
  clear HC8
  repeat (first | clear c1 | clear c2 | clear p2 | clear c3 | clear c8 | clear c14 | clear c15 | clear c16 | clear c16b0 | clear hcz11_0 | clear hcz11_1 | clear hcz17_0 | clear hcz17_1 | clear hcz19_0 | clear hcz19_1 | clear hcz21_0 | clear hcz21_1 | clear hfz11_0 | clear hfz11_1 | clear hfz17_0 | clear hfz17_1 | clear hfz19_0 | clear hfz19_1 | clear hfz21_0 | clear hfz21_1)
  obtain ⟨kq, x41_7, rfl, HA, HJ7, HO_11, HO_12, BK731, HB⟩ := hcut; cases kq with
  | zero => exact absurd HA.out (by simp [tollbarlaw12_Pushes.j0])
  | succ kj7 =>
   have H := HA.out; clear HA; simp only [tollbarlaw12_Pushes.j0] at H
   by_cases c23 : x41_7 = true
   ·
    subst c23
    have H1 : ((tollbarlaw12_awake.f kj7).bind fun t741 => (if t741 = true then ((tollbarlaw0_Num.f t739).bind fun t742 => (if t742 = 1200 then (if (t735.length : Int) = 0 then (some (t738 == 0)) else (none)) else (none))) else (none))) = some r := by rw [if_pos rfl] at H; exact H
    clear H; have H := H1; clear H1; replace H := Option.bind_eq_some_iff.mp H; obtain ⟨t741, A240, H⟩ := H; replace H : (if t741 = true then ((tollbarlaw0_Num.f t739).bind fun t742 => (if t742 = 1200 then (if (t735.length : Int) = 0 then (some (t738 == 0)) else (none)) else (none))) else (none)) = some r := H; have A24 := ak A240; clear A240
    by_cases c25 : t741 = true
    ·
     subst c25
     have H1 : ((tollbarlaw0_Num.f t739).bind fun t742 => (if t742 = 1200 then (if (t735.length : Int) = 0 then (some (t738 == 0)) else (none)) else (none))) = some r := by rw [if_pos rfl] at H; exact H
     clear H; have H := H1; clear H1; replace H := Option.bind_eq_some_iff.mp H; obtain ⟨t742, A260, H⟩ := H; replace H : (if t742 = 1200 then (if (t735.length : Int) = 0 then (some (t738 == 0)) else (none)) else (none)) = some r := H; have A26 := ak A260; clear A260
     by_cases c27 : t742 = 1200
     ·
      rw [if_pos c27] at H; have c27b0 : (t742 == 1200) = true := beq_iff_eq.mpr c27; have c27b1 : (t742 != 1200) = false := bne_eq_false_iff_eq.mpr c27; clear c27
      by_cases c28 : (t735.length : Int) = 0
      ·
       rw [if_pos c28] at H; have c28b0 : ((t735.length : Int) == 0) = true := beq_iff_eq.mpr c28; have c28b1 : ((t735.length : Int) != 0) = false := bne_eq_false_iff_eq.mpr c28; clear c28; obtain rfl := Option.some.inj H
       go_wp2_with (first | ((with_reducible refine gate_callee (f := 31) rfl ?_); refine gl 42 Try.func31 #[] ?_; (with_reducible refine (tollbarlaw12_awake.calls kj7  true _ A24.out).mono ?_); rintro e w29 ⟨rfl, hb⟩; refine ⟨_, rfl, ?_⟩; replace HO_11 := ak (Kd.R_below HO_11.out hb); replace HO_12 := ak (Kd.R_below HO_12.out hb); replace BK731 := ak (blk_below BK731.out hb); replace HB := ak (below_step HB.out hb); (try clear hb); (try clear hb2); (try clear hk); (try clear hi)) | (go_at_call 18; (with_reducible refine (tollbarlaw0_Num.calls t739 t742 _ A26.out).mono ?_); rintro e w' ⟨rfl, ⟨nd, rfl⟩⟩; obtain ⟨Ao30, co30, eo30⟩ := Kd.R_slice HO_12.out; subst eo30))
       go_ret
       exact ⟨by first | rfl | (simp [errW_none, errW_some] <;> rfl) | (simp [*, errW_none, errW_some] <;> rfl), bq1 HB.out GE731.out⟩
      ·
       rw [if_neg c28] at H; exact absurd H (by simp)
     ·
      rw [if_neg c27] at H; exact absurd H (by simp)
    ·
     replace c25 := Bool.eq_false_iff.mpr c25; subst c25
     have H1 : (none) = some r := by rw [if_neg (show ¬ (false = true) by decide)] at H; exact H
     clear H; have H := H1; clear H1; exact absurd H (by simp)
   ·
    replace c23 := Bool.eq_false_iff.mpr c23; subst c23
    have H1 : ((tollbarref4_Least.f kj7 a0_0 l0_1 l1 a2 a3).bind fun t743 => (if a4 < t743 then (tollbarlaw12_Pushes.j1 kj7 l1 a2 a3 t732 t735 t738 t739 a4 a0_0 l0_1) else (tollbarlaw12_Pushes.j1 kj7 l1 a2 a3 t732 t735 t738 t739 t743 a0_0 l0_1))) = some r := by rw [if_neg (show ¬ (false = true) by decide)] at H; exact H
    clear H; have H := H1; clear H1; replace H := Option.bind_eq_some_iff.mp H; obtain ⟨t743, A310, H⟩ := H; replace H : (if a4 < t743 then (tollbarlaw12_Pushes.j1 kj7 l1 a2 a3 t732 t735 t738 t739 a4 a0_0 l0_1) else (tollbarlaw12_Pushes.j1 kj7 l1 a2 a3 t732 t735 t738 t739 t743 a0_0 l0_1)) = some r := H; have A31 := ak A310; clear A310; have HC32 := ak H; clear H; have hcz33_0 := bkat BK731.out 0; have hcz33_1 := bkat BK731.out 1; have hfz33_0 := blk_frozen BK731.out 0; have hfz33_1 := blk_frozen BK731.out 1
    go_upto_if 64 with (first | ((with_reducible refine gate_callee (f := 27) rfl ?_); refine gl 61 Try.func27 #[.agg #[.int .i64 a0_0, .slice A0_1 l0_1.length c0_1], .slice A1 l1.length c1, .int .i64 a2, .int .i64 a3] ?_; (with_reducible refine (tollbarref4_Least.calls kj7 a0_0 _ _ l0_1 _ _ l1 a2 a3 t743 _ ?side1 ?side2 ?side3 ?side4 A31.out).mono ?_); (case side1 => exact (Kd.C_below HR0_1.out HB.out)); (case side2 => exact HC0_1.out); (case side3 => exact (Kd.C_below HR1.out HB.out)); (case side4 => exact HC1.out); rintro e w34 ⟨rfl, hb⟩; refine ⟨_, rfl, ?_⟩; replace HO_11 := ak (Kd.R_below HO_11.out hb); replace HO_12 := ak (Kd.R_below HO_12.out hb); replace BK731 := ak (blk_below BK731.out hb); replace HB := ak (below_step HB.out hb); (try clear hb); (try clear hb2); (try clear hk); (try clear hi)))
    (try simp only [Act.put, List.setIfInBounds_toArray, List.set_cons_zero, List.set_cons_succ])
    go_cut [15] (fun v15 wc => ∃ (kq : Nat) (x15_31 : Int), v15 = .int .i64 x15_31 ∧ Aside0 (tollbarlaw12_Pushes.j1 kq l1 a2 a3 t732 t735 t738 t739 x15_31 a0_0 l0_1 = some r) ∧ Aside0 (kq ≤ kj7) ∧ Aside0 (Kd.R (Kd.int .i64) 3 wc w.heap.size (fun k_ => some k_ ≠ (v736 : Value).ownBlock) (.slice Ao12 (t732 ++ kz).length co12) (t732 ++ kz)) ∧ Aside0 (Kd.R (Kd.int .i64) 3 wc w.heap.size (fun k_ => some k_ ≠ ((.slice Ao12 (t732 ++ kz).length co12) : Value).ownBlock) v736 t735) ∧ Aside0 (wc.heap[gb731]? = some (.cells #[.int .i64 a0_0, (.slice A0_1 l0_1.length c0_1)] 24 (0, 0))) ∧ Aside0 (Below w.heap.size w wc))
    case first =>
     have H := HC32.out; clear HC32
     by_cases c35 : a4 < t743
     ·
      rw [if_pos c35] at H; have c35b0 : decide (a4 < t743) = true := decide_eq_true c35; clear c35; (first | rw [c35b0] | (simp only [i64_w, i32_w]; rw [c35b0]) | skip); have H' := ak H; clear H
      go_wp2
      go_meet
      case rel => exact ⟨_, (a4), (by first | rfl | (simp; done) | (simp [*]; done)), H', ⟨by have := HJ7.out; first | omega | exact Nat.le_refl _⟩, ⟨HO_11.out⟩, ⟨HO_12.out⟩, ⟨BK731.out⟩, ⟨HB.out⟩⟩
     ·
      rw [if_neg c35] at H; have c35b0 : decide (a4 < t743) = false := decide_eq_false c35; clear c35; (first | rw [c35b0] | (simp only [i64_w, i32_w]; rw [c35b0]) | skip); have H' := ak H; clear H
      go_wp2
      go_meet
      case rel => exact ⟨_, (t743), (by first | rfl | (simp; done) | (simp [*]; done)), H', ⟨by have := HJ7.out; first | omega | exact Nat.le_refl _⟩, ⟨HO_11.out⟩, ⟨HO_12.out⟩, ⟨BK731.out⟩, ⟨HB.out⟩⟩
    case rest =>
     clear HC32
     repeat (first | clear c1 | clear c2 | clear p2 | clear c3 | clear c8 | clear c14 | clear c15 | clear c16 | clear c16b0 | clear c23 | clear c25 | clear c27 | clear c27b0 | clear c27b1 | clear c28 | clear c28b0 | clear c28b1 | clear c29 | clear c30 | clear c31 | clear c35 | clear c35b0 | clear hcz11_0 | clear hcz11_1 | clear hcz17_0 | clear hcz17_1 | clear hcz19_0 | clear hcz19_1 | clear hcz21_0 | clear hcz21_1 | clear hcz33_0 | clear hcz33_1 | clear hfz11_0 | clear hfz11_1 | clear hfz17_0 | clear hfz17_1 | clear hfz19_0 | clear hfz19_1 | clear hfz21_0 | clear hfz21_1 | clear hfz33_0 | clear hfz33_1)
     obtain ⟨kq, x15_31, rfl, HA, HJ31, HO_11, HO_12, BK731, HB⟩ := hcut; cases kq with
     | zero => exact absurd HA.out (by simp [tollbarlaw12_Pushes.j1])
     | succ kj31 =>
      have H := HA.out; clear HA; simp only [tollbarlaw12_Pushes.j1] at H; replace H := Option.bind_eq_some_iff.mp H; obtain ⟨t744, A360, H⟩ := H; replace H : (if t744 = true then ((tollbarlaw0_Num.f t739).bind fun t745 => (if t745 = 0 then ((tollbarref4_FlowMay.f kj31 a0_0 l0_1 l1 t735 a2 a3).bind fun t746 => (if t746 = true then (if t738 = x15_31 then ((tollbarref4_Gain.f kj31 a0_0 l0_1 t735 a2).bind fun t747 => (if t747 = t738 then ((tollbarlaw0_KeptInts.f kj31 t732 l1).bind fun t748 => (some t748)) else (none))) else (none)) else (none))) else (none))) else (none)) = some r := H; have A36 := ak A360; clear A360
      by_cases c37 : t744 = true
      ·
       subst c37
       have H1 : ((tollbarlaw0_Num.f t739).bind fun t745 => (if t745 = 0 then ((tollbarref4_FlowMay.f kj31 a0_0 l0_1 l1 t735 a2 a3).bind fun t746 => (if t746 = true then (if t738 = x15_31 then ((tollbarref4_Gain.f kj31 a0_0 l0_1 t735 a2).bind fun t747 => (if t747 = t738 then ((tollbarlaw0_KeptInts.f kj31 t732 l1).bind fun t748 => (some t748)) else (none))) else (none)) else (none))) else (none))) = some r := by rw [if_pos rfl] at H; exact H
       clear H; have H := H1; clear H1; replace H := Option.bind_eq_some_iff.mp H; obtain ⟨t745, A380, H⟩ := H; replace H : (if t745 = 0 then ((tollbarref4_FlowMay.f kj31 a0_0 l0_1 l1 t735 a2 a3).bind fun t746 => (if t746 = true then (if t738 = x15_31 then ((tollbarref4_Gain.f kj31 a0_0 l0_1 t735 a2).bind fun t747 => (if t747 = t738 then ((tollbarlaw0_KeptInts.f kj31 t732 l1).bind fun t748 => (some t748)) else (none))) else (none)) else (none))) else (none)) = some r := H; have A38 := ak A380; clear A380
       by_cases c39 : t745 = 0
       ·
        rw [if_pos c39] at H; have c39b0 : (t745 == 0) = true := beq_iff_eq.mpr c39; have c39b1 : (t745 != 0) = false := bne_eq_false_iff_eq.mpr c39; clear c39; replace H := Option.bind_eq_some_iff.mp H; obtain ⟨t746, A400, H⟩ := H; replace H : (if t746 = true then (if t738 = x15_31 then ((tollbarref4_Gain.f kj31 a0_0 l0_1 t735 a2).bind fun t747 => (if t747 = t738 then ((tollbarlaw0_KeptInts.f kj31 t732 l1).bind fun t748 => (some t748)) else (none))) else (none)) else (none)) = some r := H; have A40 := ak A400; clear A400
        by_cases c41 : t746 = true
        ·
         subst c41
         have H1 : (if t738 = x15_31 then ((tollbarref4_Gain.f kj31 a0_0 l0_1 t735 a2).bind fun t747 => (if t747 = t738 then ((tollbarlaw0_KeptInts.f kj31 t732 l1).bind fun t748 => (some t748)) else (none))) else (none)) = some r := by rw [if_pos rfl] at H; exact H
         clear H; have H := H1; clear H1
         by_cases c42 : t738 = x15_31
         ·
          rw [if_pos c42] at H; have c42b0 : (t738 == x15_31) = true := beq_iff_eq.mpr c42; have c42b1 : (t738 != x15_31) = false := bne_eq_false_iff_eq.mpr c42; clear c42; replace H := Option.bind_eq_some_iff.mp H; obtain ⟨t747, A430, H⟩ := H; replace H : (if t747 = t738 then ((tollbarlaw0_KeptInts.f kj31 t732 l1).bind fun t748 => (some t748)) else (none)) = some r := H; have A43 := ak A430; clear A430
          by_cases c44 : t747 = t738
          ·
           rw [if_pos c44] at H; have c44b0 : (t747 == t738) = true := beq_iff_eq.mpr c44; have c44b1 : (t747 != t738) = false := bne_eq_false_iff_eq.mpr c44; clear c44; replace H := Option.bind_eq_some_iff.mp H; obtain ⟨t748, A450, H⟩ := H; replace H : (some t748) = some r := H; have A45 := ak A450; clear A450; obtain rfl := Option.some.inj H
           go_wp2_with (first | ((with_reducible refine gate_callee (f := 31) rfl ?_); refine gl 66 Try.func31 #[] ?_; (with_reducible refine (tollbarlaw12_awake.calls kj31  true _ A36.out).mono ?_); rintro e w46 ⟨rfl, hb⟩; refine ⟨_, rfl, ?_⟩; replace HO_11 := ak (Kd.R_below (br HO_11.out) hb); replace HO_12 := ak (Kd.R_below (br HO_12.out) hb); replace BK731 := ak (blk_below (bk BK731.out) hb); replace HB := ak (below_step (bq1 HB.out GE731.out) hb); (try clear hb); (try clear hb2); (try clear hk); (try clear hi)) | (go_at_call 18; (with_reducible refine (tollbarlaw0_Num.calls t739 t745 _ A38.out).mono ?_); rintro e w' ⟨rfl, ⟨nd, rfl⟩⟩; have hcz47_0 := bkat BK731.out 0; have hcz47_1 := bkat BK731.out 1; have hfz47_0 := blk_frozen BK731.out 0; have hfz47_1 := blk_frozen BK731.out 1; obtain ⟨Ao48, co48, eo48⟩ := Kd.R_slice HO_12.out; subst eo48) | (go_at_call 16; (with_reducible refine (tollbarref4_FlowMay.calls kj31 a0_0 _ _ l0_1 _ _ l1 _ _ t735 a2 a3 true _ ?side1 ?side2 ?side3 ?side4 ?side5 ?side6 A40.out).mono ?_); (case side1 => repeat (first | exact (Kd.C_below HR0_1.out (bq1 HB.out GE731.out)) | (with_reducible refine Kd.C_alloc ?_ _) | (with_reducible refine Kd.C_drewN ?_ _) | (with_reducible refine Kd.C_drew ?_))); (case side2 => exact HC0_1.out); (case side3 => repeat (first | exact (Kd.C_below HR1.out (bq1 HB.out GE731.out)) | (with_reducible refine Kd.C_alloc ?_ _) | (with_reducible refine Kd.C_drewN ?_ _) | (with_reducible refine Kd.C_drew ?_))); (case side4 => exact HC1.out); (case side5 => exact bc (Kd.R_reads' HO_12.out).2.2); (case side6 => exact (Kd.R_reads' HO_12.out).2.1); rintro e w49 ⟨rfl, hb⟩; have n0_ := ak (Kd.R_below (br HO_11.out) hb); have n1_ := ak (Kd.R_below (br HO_12.out) hb); have n2_ := ak (blk_below (bk BK731.out) hb); have n3_ := ak (below_step (bq1 HB.out GE731.out) hb); clear HO_11; clear HO_12; clear BK731; clear HB; have HO_11 := n0_; have HO_12 := n1_; have BK731 := n2_; have HB := n3_; clear n0_ n1_ n2_ n3_; (try clear hb); (try clear hb2); (try clear hk); (try clear hi); have hcz50_0 := bkat BK731.out 0; have hcz50_1 := bkat BK731.out 1; have hfz50_0 := blk_frozen BK731.out 0; have hfz50_1 := blk_frozen BK731.out 1) | (go_at_call 19; (with_reducible refine (tollbarref4_Gain.calls kj31 a0_0 _ _ l0_1 _ _ t735 a2 t747 _ ?side1 ?side2 ?side3 ?side4 A43.out).mono ?_); (case side1 => exact bc (Kd.C_below HR0_1.out HB.out)); (case side2 => exact HC0_1.out); (case side3 => exact bc (Kd.R_reads' HO_12.out).2.2); (case side4 => exact (Kd.R_reads' HO_12.out).2.1); rintro e w51 ⟨rfl, hb⟩; have n0_ := ak (Kd.R_below (br HO_11.out) hb); have n1_ := ak (Kd.R_below (br HO_12.out) hb); have n2_ := ak (blk_below (bk BK731.out) hb); have n3_ := ak (below_step (bq1 HB.out GE731.out) hb); clear HO_11; clear HO_12; clear BK731; clear HB; have HO_11 := n0_; have HO_12 := n1_; have BK731 := n2_; have HB := n3_; clear n0_ n1_ n2_ n3_; (try clear hb); (try clear hb2); (try clear hk); (try clear hi)) | (go_at_call 23; (with_reducible refine (tollbarlaw0_KeptInts.calls kj31 _ _ t732 _ _ l1 t748 _ ?side1 ?side2 ?side3 ?side4 A45.out).mono ?_); (case side1 => exact bc (Kd.R_reads' HO_11.out).2.2); (case side2 => exact (Kd.R_reads' HO_11.out).2.1); (case side3 => exact bc (Kd.C_below HR1.out HB.out)); (case side4 => exact HC1.out); rintro e w' ⟨rfl, ⟨nd, rfl⟩⟩))
           go_ret
           exact ⟨by first | rfl | (simp [errW_none, errW_some] <;> rfl) | (simp [*, errW_none, errW_some] <;> rfl), bq1 HB.out GE731.out⟩
          ·
           rw [if_neg c44] at H; exact absurd H (by simp)
         ·
          rw [if_neg c42] at H; exact absurd H (by simp)
        ·
         replace c41 := Bool.eq_false_iff.mpr c41; subst c41
         have H1 : (none) = some r := by rw [if_neg (show ¬ (false = true) by decide)] at H; exact H
         clear H; have H := H1; clear H1; exact absurd H (by simp)
       ·
        rw [if_neg c39] at H; exact absurd H (by simp)
      ·
       replace c37 := Bool.eq_false_iff.mpr c37; subst c37
       have H1 : (none) = some r := by rw [if_neg (show ¬ (false = true) by decide)] at H; exact H
       clear H; have H := H1; clear H1; exact absurd H (by simp)
end Go.Proofs.Ytnbhfcanknhkhaa.PAll
end
