/- Texts of this claim, one behind the other: F6. -/
import Derived.Test.YtnbhfcanknhkhaaA46b253
import Derived.Test.YtnbhfcanknhkhaaAd76bb8
import Derived.Test.YtnbhfcanknhkhaaA29cd3a
import Derived.Test.YtnbhfcanknhkhaaA258b66
import Derived.Test.YtnbhfcanknhkhaaA1bcc1d
section
namespace Go.Proofs.Ytnbhfcanknhkhaa.PAll
open Go.RowKit Go.Proofs.YtnbhfcanknhkhaaW.PrintWords Go.Proofs.YtnbhfcanknhkhaaW.PrintLast Go.Proofs.YtnbhfcanknhkhaaW.PrintMore
attribute [local go_sem] max2_int min2_int max_two min_two max_three min_three max_four min_four   -- for this text's walks alone
set_option linter.unusedVariables false
set_option linter.unusedSimpArgs false
/-! ### tollbarlaw11_BlockRounds: function 6 -/
mutual
def tollbarlaw11_BlockRounds.j0 : Nat → List Int → Int → Int → Bool → Int → List (S53) → Option (Bool)
 | 0, _, _, _, _, _, _ => none
 | k + 1, x1, x2, x3, x43, xkb, xka => if x43 = true then (some true) else (if 0 ≤ (xka.length : Int) then (if ((xka.length : Int) : Int).toNat ≤ 35184372088832 then (tollbarlaw11_BlockRounds.l0 k x1 x2 x3 (List.replicate ((xka.length : Int) : Int).toNat 0) 0 0 xkb xka) else (none)) else (none))
def tollbarlaw11_BlockRounds.l0 : Nat → List Int → Int → Int → List Int → Int → Int → Int → List (S53) → Option (Bool)
 | 0, _, _, _, _, _, _, _, _ => none
 | k + 1, x1, x2, x3, x9, x10, x11, xkb, xka => if x11 < xkb then ((block_Block.f k xkb xka x1 x9 x2 x3 4611686018427387904).bind fun bt638 => ((tollbarlaw0_Num.f bt638.2.2).bind fun t643 => (if t643 = 0 then (if (bt638.1.length : Int) = (x9.length : Int) then (if bt638.2.1 < 0 then (none) else (if bt638.2.1 > (wrap64 (4611686018427387904 - x10)) then (none) else (tollbarlaw11_BlockRounds.l0 k x1 x2 x3 bt638.1 (wrap64 (x10 + bt638.2.1)) (wrap64 (x11 + 1)) xkb xka))) else (none)) else (none)))) else ((tollbarlaw11_awake.f k).bind fun t636 => (if t636 = true then ((tollbarref4_Least.f k xkb xka x1 x2 x3).bind fun t637 => (some (x10 == t637))) else (none)))
end
def tollbarlaw11_BlockRounds.f (k : Nat) (a0_0 : Int) (l0_1 : List (S53)) (l1 : List Int) (a2 : Int) (a3 : Int) : Option (Bool) := (tollbarref4_CapsMay.f k a0_0 l0_1 l1).bind fun t632 => (if t632 = true then (if a2 < 0 then (tollbarlaw11_BlockRounds.j0 k l1 a2 a3 true a0_0 l0_1) else (if a2 ≥ a0_0 then (tollbarlaw11_BlockRounds.j0 k l1 a2 a3 true a0_0 l0_1) else (if a3 < 0 then (tollbarlaw11_BlockRounds.j0 k l1 a2 a3 true a0_0 l0_1) else (if a3 ≥ a0_0 then (tollbarlaw11_BlockRounds.j0 k l1 a2 a3 true a0_0 l0_1) else (tollbarlaw11_BlockRounds.j0 k l1 a2 a3 (a2 == a3) a0_0 l0_1))))) else (tollbarlaw11_BlockRounds.j0 k l1 a2 a3 true a0_0 l0_1))
set_option maxHeartbeats 8000000 in
set_option maxRecDepth 100000 in
theorem tollbarlaw11_BlockRounds.calls (k : Nat) (a0_0 : Int) (A0_1 : Option Addr) (c0_1 : Nat) (l0_1 : List (S53)) (A1 : Option Addr) (c1 : Nat) (l1 : List Int) (a2 : Int) (a3 : Int) (r : Bool) (w : World) (hr0_1 : Kd.C k53 w A0_1 l0_1.length l0_1) (hc0_1 : l0_1.length ≤ c0_1) (hr1 : Kd.C (Kd.int .i64) w A1 l1.length l1) (hc1 : l1.length ≤ c1) (h : tollbarlaw11_BlockRounds.f k a0_0 l0_1 l1 a2 a3 = some r) :
  Calls Try.prog 6 #[.agg #[.int .i64 a0_0, .slice A0_1 l0_1.length c0_1], .slice A1 l1.length c1, .int .i64 a2, .int .i64 a3] w fun e w' => e = .returned (.bool r) ∧ Below w.heap.size w w' := by
 have hu24 := Try.underlying24; have HR0_1 := ak hr0_1; have HC0_1 := ak hc0_1; clear hr0_1 hc0_1; have HR1 := ak hr1; have HC1 := ak hc1; clear hr1 hc1; have HB := ak (Below.refl w.heap.size w); have H : ((tollbarref4_CapsMay.f k a0_0 l0_1 l1).bind fun t632 => (if t632 = true then (if a2 < 0 then (tollbarlaw11_BlockRounds.j0 k l1 a2 a3 true a0_0 l0_1) else (if a2 ≥ a0_0 then (tollbarlaw11_BlockRounds.j0 k l1 a2 a3 true a0_0 l0_1) else (if a3 < 0 then (tollbarlaw11_BlockRounds.j0 k l1 a2 a3 true a0_0 l0_1) else (if a3 ≥ a0_0 then (tollbarlaw11_BlockRounds.j0 k l1 a2 a3 true a0_0 l0_1) else (tollbarlaw11_BlockRounds.j0 k l1 a2 a3 (a2 == a3) a0_0 l0_1))))) else (tollbarlaw11_BlockRounds.j0 k l1 a2 a3 true a0_0 l0_1))) = some r := h; clear h; have HC5 := ak H; clear H
 go_enter Try.func6, Try.ntmps6
 go_upto_region 1 with (first | ((with_reducible refine gate_dst (N := 4) rfl ?_); (try (refine gate_guard (by rfl) ?_; dsimp only)); refine box_event ?hg (N := 4) ?hd (cs := #[.int .i64 a0_0, .slice A0_1 l0_1.length c0_1]) (t := 24) ?hr ?_; (case hd => rfl); (case hg => rfl); (case hr => first | (go_simp; done) | (go_simp; rfl)); intro gb631 hg w6 hbox hb; have BK631 := ak (hbox); have GW631 := ak ((by rw [hg]; exact (below_size HB.out) : w.heap.size ≤ gb631)); have GE631 := ak ((by rw [hg]; exact (below_size HB.out) : w.heap.size ≤ gb631)); replace HB := ak (below_step HB.out hb); clear hb hbox hg))
 (try simp only [Act.put, List.setIfInBounds_toArray, List.set_cons_zero, List.set_cons_succ])
 go_cut [43] (fun v43 wc => ∃ (kq : Nat) (x43_4 : Bool), v43 = .bool x43_4 ∧ Aside0 (tollbarlaw11_BlockRounds.j0 kq l1 a2 a3 x43_4 a0_0 l0_1 = some r) ∧ Aside0 (kq ≤ k) ∧ Aside0 (wc.heap[gb631]? = some (.cells #[.int .i64 a0_0, (.slice A0_1 l0_1.length c0_1)] 24 (0, 0))) ∧ Aside0 (Below w.heap.size w wc))
 case first =>
  have H := HC5.out; clear HC5; replace H := Option.bind_eq_some_iff.mp H; obtain ⟨t632, A70, H⟩ := H; replace H : (if t632 = true then (if a2 < 0 then (tollbarlaw11_BlockRounds.j0 k l1 a2 a3 true a0_0 l0_1) else (if a2 ≥ a0_0 then (tollbarlaw11_BlockRounds.j0 k l1 a2 a3 true a0_0 l0_1) else (if a3 < 0 then (tollbarlaw11_BlockRounds.j0 k l1 a2 a3 true a0_0 l0_1) else (if a3 ≥ a0_0 then (tollbarlaw11_BlockRounds.j0 k l1 a2 a3 true a0_0 l0_1) else (tollbarlaw11_BlockRounds.j0 k l1 a2 a3 (a2 == a3) a0_0 l0_1))))) else (tollbarlaw11_BlockRounds.j0 k l1 a2 a3 true a0_0 l0_1)) = some r := H; have A7 := ak A70; clear A70
  by_cases c8 : t632 = true
  ·
   subst c8
   have H1 : (if a2 < 0 then (tollbarlaw11_BlockRounds.j0 k l1 a2 a3 true a0_0 l0_1) else (if a2 ≥ a0_0 then (tollbarlaw11_BlockRounds.j0 k l1 a2 a3 true a0_0 l0_1) else (if a3 < 0 then (tollbarlaw11_BlockRounds.j0 k l1 a2 a3 true a0_0 l0_1) else (if a3 ≥ a0_0 then (tollbarlaw11_BlockRounds.j0 k l1 a2 a3 true a0_0 l0_1) else (tollbarlaw11_BlockRounds.j0 k l1 a2 a3 (a2 == a3) a0_0 l0_1))))) = some r := by rw [if_pos rfl] at H; exact H
   clear H; have H := H1; clear H1
   by_cases c9 : a2 < 0
   ·
    rw [if_pos c9] at H; have c9b0 : decide (a2 < 0) = true := decide_eq_true c9; clear c9; (first | rw [c9b0] | (simp only [i64_w, i32_w]; rw [c9b0]) | skip); have H' := ak H; clear H; have hcz10_0 : w6.cell? ⟨gb631, 0, none⟩ = some (.int .i64 a0_0) := (blk_cell BK631.out 0).trans rfl; have hcz10_1 : w6.cell? ⟨gb631, 1, none⟩ = some (.slice A0_1 l0_1.length c0_1) := (blk_cell BK631.out 1).trans rfl; have hfz10_0 := blk_frozen BK631.out 0; have hfz10_1 := blk_frozen BK631.out 1
    go_wp2_with (first | ((with_reducible refine gate_callee (f := 26) rfl ?_); refine gl 17 Try.func26 #[.agg #[.int .i64 a0_0, .slice A0_1 l0_1.length c0_1], .slice A1 l1.length c1] ?_; (with_reducible refine (tollbarref4_CapsMay.calls k a0_0 _ _ l0_1 _ _ l1 true _ ?side1 ?side2 ?side3 ?side4 A7.out).mono ?_); (case side1 => exact (Kd.C_below HR0_1.out HB.out)); (case side2 => exact HC0_1.out); (case side3 => exact (Kd.C_below HR1.out HB.out)); (case side4 => exact HC1.out); rintro e w11 ⟨rfl, hb⟩; refine ⟨_, rfl, ?_⟩; replace BK631 := ak (blk_below BK631.out hb); replace HB := ak (below_step HB.out hb); (try clear hb); (try clear hb2); (try clear hk); (try clear hi)))
    go_meet
    case rel => exact ⟨_, (true), (by first | rfl | (simp; done) | (simp [*]; done)), H', ⟨by first | omega | exact Nat.le_refl _⟩, ⟨BK631.out⟩, ⟨HB.out⟩⟩
   ·
    rw [if_neg c9] at H; have c9b0 : decide (a2 < 0) = false := decide_eq_false c9; clear c9; (first | rw [c9b0] | (simp only [i64_w, i32_w]; rw [c9b0]) | skip)
    by_cases c12 : a2 ≥ a0_0
    ·
     rw [if_pos c12] at H; have c12b0 : decide (a0_0 ≤ a2) = true := decide_eq_true c12; clear c12; have H' := ak H; clear H; have hcz13_0 : w6.cell? ⟨gb631, 0, none⟩ = some (.int .i64 a0_0) := (blk_cell BK631.out 0).trans rfl; have hcz13_1 : w6.cell? ⟨gb631, 1, none⟩ = some (.slice A0_1 l0_1.length c0_1) := (blk_cell BK631.out 1).trans rfl; have hfz13_0 := blk_frozen BK631.out 0; have hfz13_1 := blk_frozen BK631.out 1
     go_wp2_with (first | ((with_reducible refine gate_callee (f := 26) rfl ?_); refine gl 17 Try.func26 #[.agg #[.int .i64 a0_0, .slice A0_1 l0_1.length c0_1], .slice A1 l1.length c1] ?_; (with_reducible refine (tollbarref4_CapsMay.calls k a0_0 _ _ l0_1 _ _ l1 true _ ?side1 ?side2 ?side3 ?side4 A7.out).mono ?_); (case side1 => exact (Kd.C_below HR0_1.out HB.out)); (case side2 => exact HC0_1.out); (case side3 => exact (Kd.C_below HR1.out HB.out)); (case side4 => exact HC1.out); rintro e w14 ⟨rfl, hb⟩; refine ⟨_, rfl, ?_⟩; replace BK631 := ak (blk_below BK631.out hb); replace HB := ak (below_step HB.out hb); (try clear hb); (try clear hb2); (try clear hk); (try clear hi); have hcz15_0 : w14.cell? ⟨gb631, 0, none⟩ = some (.int .i64 a0_0) := (blk_cell BK631.out 0).trans rfl; have hcz15_1 : w14.cell? ⟨gb631, 1, none⟩ = some (.slice A0_1 l0_1.length c0_1) := (blk_cell BK631.out 1).trans rfl; have hfz15_0 := blk_frozen BK631.out 0; have hfz15_1 := blk_frozen BK631.out 1))
     go_meet
     case rel => exact ⟨_, (true), (by first | rfl | (simp; done) | (simp [*]; done)), H', ⟨by first | omega | exact Nat.le_refl _⟩, ⟨BK631.out⟩, ⟨HB.out⟩⟩
    ·
     rw [if_neg c12] at H; have c12b0 : decide (a0_0 ≤ a2) = false := decide_eq_false c12; clear c12
     by_cases c16 : a3 < 0
     ·
      rw [if_pos c16] at H; have c16b0 : decide (a3 < 0) = true := decide_eq_true c16; clear c16; have H' := ak H; clear H; have hcz17_0 : w6.cell? ⟨gb631, 0, none⟩ = some (.int .i64 a0_0) := (blk_cell BK631.out 0).trans rfl; have hcz17_1 : w6.cell? ⟨gb631, 1, none⟩ = some (.slice A0_1 l0_1.length c0_1) := (blk_cell BK631.out 1).trans rfl; have hfz17_0 := blk_frozen BK631.out 0; have hfz17_1 := blk_frozen BK631.out 1
      go_wp2_with (first | ((with_reducible refine gate_callee (f := 26) rfl ?_); refine gl 17 Try.func26 #[.agg #[.int .i64 a0_0, .slice A0_1 l0_1.length c0_1], .slice A1 l1.length c1] ?_; (with_reducible refine (tollbarref4_CapsMay.calls k a0_0 _ _ l0_1 _ _ l1 true _ ?side1 ?side2 ?side3 ?side4 A7.out).mono ?_); (case side1 => exact (Kd.C_below HR0_1.out HB.out)); (case side2 => exact HC0_1.out); (case side3 => exact (Kd.C_below HR1.out HB.out)); (case side4 => exact HC1.out); rintro e w18 ⟨rfl, hb⟩; refine ⟨_, rfl, ?_⟩; replace BK631 := ak (blk_below BK631.out hb); replace HB := ak (below_step HB.out hb); (try clear hb); (try clear hb2); (try clear hk); (try clear hi); have hcz19_0 : w18.cell? ⟨gb631, 0, none⟩ = some (.int .i64 a0_0) := (blk_cell BK631.out 0).trans rfl; have hcz19_1 : w18.cell? ⟨gb631, 1, none⟩ = some (.slice A0_1 l0_1.length c0_1) := (blk_cell BK631.out 1).trans rfl; have hfz19_0 := blk_frozen BK631.out 0; have hfz19_1 := blk_frozen BK631.out 1))
      go_meet
      case rel => exact ⟨_, (true), (by first | rfl | (simp; done) | (simp [*]; done)), H', ⟨by first | omega | exact Nat.le_refl _⟩, ⟨BK631.out⟩, ⟨HB.out⟩⟩
     ·
      rw [if_neg c16] at H; have c16b0 : decide (a3 < 0) = false := decide_eq_false c16; clear c16
      by_cases c20 : a3 ≥ a0_0
      ·
       rw [if_pos c20] at H; have c20b0 : decide (a0_0 ≤ a3) = true := decide_eq_true c20; clear c20; have H' := ak H; clear H; have hcz21_0 : w6.cell? ⟨gb631, 0, none⟩ = some (.int .i64 a0_0) := (blk_cell BK631.out 0).trans rfl; have hcz21_1 : w6.cell? ⟨gb631, 1, none⟩ = some (.slice A0_1 l0_1.length c0_1) := (blk_cell BK631.out 1).trans rfl; have hfz21_0 := blk_frozen BK631.out 0; have hfz21_1 := blk_frozen BK631.out 1
       go_wp2_with (first | ((with_reducible refine gate_callee (f := 26) rfl ?_); refine gl 17 Try.func26 #[.agg #[.int .i64 a0_0, .slice A0_1 l0_1.length c0_1], .slice A1 l1.length c1] ?_; (with_reducible refine (tollbarref4_CapsMay.calls k a0_0 _ _ l0_1 _ _ l1 true _ ?side1 ?side2 ?side3 ?side4 A7.out).mono ?_); (case side1 => exact (Kd.C_below HR0_1.out HB.out)); (case side2 => exact HC0_1.out); (case side3 => exact (Kd.C_below HR1.out HB.out)); (case side4 => exact HC1.out); rintro e w22 ⟨rfl, hb⟩; refine ⟨_, rfl, ?_⟩; replace BK631 := ak (blk_below BK631.out hb); replace HB := ak (below_step HB.out hb); (try clear hb); (try clear hb2); (try clear hk); (try clear hi); have hcz23_0 : w22.cell? ⟨gb631, 0, none⟩ = some (.int .i64 a0_0) := (blk_cell BK631.out 0).trans rfl; have hcz23_1 : w22.cell? ⟨gb631, 1, none⟩ = some (.slice A0_1 l0_1.length c0_1) := (blk_cell BK631.out 1).trans rfl; have hfz23_0 := blk_frozen BK631.out 0; have hfz23_1 := blk_frozen BK631.out 1))
       go_meet
       case rel => exact ⟨_, (true), (by first | rfl | (simp; done) | (simp [*]; done)), H', ⟨by first | omega | exact Nat.le_refl _⟩, ⟨BK631.out⟩, ⟨HB.out⟩⟩
      ·
       rw [if_neg c20] at H; have c20b0 : decide (a0_0 ≤ a3) = false := decide_eq_false c20; clear c20; have H' := ak H; clear H; have hcz24_0 : w6.cell? ⟨gb631, 0, none⟩ = some (.int .i64 a0_0) := (blk_cell BK631.out 0).trans rfl; have hcz24_1 : w6.cell? ⟨gb631, 1, none⟩ = some (.slice A0_1 l0_1.length c0_1) := (blk_cell BK631.out 1).trans rfl; have hfz24_0 := blk_frozen BK631.out 0; have hfz24_1 := blk_frozen BK631.out 1
       go_wp2_with (first | ((with_reducible refine gate_callee (f := 26) rfl ?_); refine gl 17 Try.func26 #[.agg #[.int .i64 a0_0, .slice A0_1 l0_1.length c0_1], .slice A1 l1.length c1] ?_; (with_reducible refine (tollbarref4_CapsMay.calls k a0_0 _ _ l0_1 _ _ l1 true _ ?side1 ?side2 ?side3 ?side4 A7.out).mono ?_); (case side1 => exact (Kd.C_below HR0_1.out HB.out)); (case side2 => exact HC0_1.out); (case side3 => exact (Kd.C_below HR1.out HB.out)); (case side4 => exact HC1.out); rintro e w25 ⟨rfl, hb⟩; refine ⟨_, rfl, ?_⟩; replace BK631 := ak (blk_below BK631.out hb); replace HB := ak (below_step HB.out hb); (try clear hb); (try clear hb2); (try clear hk); (try clear hi); have hcz26_0 : w25.cell? ⟨gb631, 0, none⟩ = some (.int .i64 a0_0) := (blk_cell BK631.out 0).trans rfl; have hcz26_1 : w25.cell? ⟨gb631, 1, none⟩ = some (.slice A0_1 l0_1.length c0_1) := (blk_cell BK631.out 1).trans rfl; have hfz26_0 := blk_frozen BK631.out 0; have hfz26_1 := blk_frozen BK631.out 1))
       go_meet
       case rel => exact ⟨_, ((a2 == a3)), (by first | rfl | (simp; done) | (simp [*]; done)), H', ⟨by first | omega | exact Nat.le_refl _⟩, ⟨BK631.out⟩, ⟨HB.out⟩⟩
  ·
   replace c8 := Bool.eq_false_iff.mpr c8; subst c8
   have H1 : (tollbarlaw11_BlockRounds.j0 k l1 a2 a3 true a0_0 l0_1) = some r := by rw [if_neg (show ¬ (false = true) by decide)] at H; exact H
   clear H; have H := H1; clear H1; have H' := ak H; clear H; have hcz27_0 : w6.cell? ⟨gb631, 0, none⟩ = some (.int .i64 a0_0) := (blk_cell BK631.out 0).trans rfl; have hcz27_1 : w6.cell? ⟨gb631, 1, none⟩ = some (.slice A0_1 l0_1.length c0_1) := (blk_cell BK631.out 1).trans rfl; have hfz27_0 := blk_frozen BK631.out 0; have hfz27_1 := blk_frozen BK631.out 1
   go_wp2_with (first | ((with_reducible refine gate_callee (f := 26) rfl ?_); refine gl 17 Try.func26 #[.agg #[.int .i64 a0_0, .slice A0_1 l0_1.length c0_1], .slice A1 l1.length c1] ?_; (with_reducible refine (tollbarref4_CapsMay.calls k a0_0 _ _ l0_1 _ _ l1 false _ ?side1 ?side2 ?side3 ?side4 A7.out).mono ?_); (case side1 => exact (Kd.C_below HR0_1.out HB.out)); (case side2 => exact HC0_1.out); (case side3 => exact (Kd.C_below HR1.out HB.out)); (case side4 => exact HC1.out); rintro e w28 ⟨rfl, hb⟩; refine ⟨_, rfl, ?_⟩; replace BK631 := ak (blk_below BK631.out hb); replace HB := ak (below_step HB.out hb); (try clear hb); (try clear hb2); (try clear hk); (try clear hi)))
   go_meet
   case rel => exact ⟨_, (true), (by first | rfl | (simp; done) | (simp [*]; done)), H', ⟨by first | omega | exact Nat.le_refl _⟩, ⟨BK631.out⟩, ⟨HB.out⟩⟩
 case rest =>
  clear HC5
  repeat (first | clear c1 | clear c2 | clear p2 | clear c6 | clear c8 | clear c9 | clear c9b0 | clear c12 | clear c12b0 | clear c16 | clear c16b0 | clear c20 | clear c20b0 | clear c26 | clear hcz10_0 | clear hcz10_1 | clear hcz13_0 | clear hcz13_1 | clear hcz15_0 | clear hcz15_1 | clear hcz17_0 | clear hcz17_1 | clear hcz19_0 | clear hcz19_1 | clear hcz21_0 | clear hcz21_1 | clear hcz23_0 | clear hcz23_1 | clear hcz24_0 | clear hcz24_1 | clear hcz26_0 | clear hcz26_1 | clear hcz27_0 | clear hcz27_1 | clear hfz10_0 | clear hfz10_1 | clear hfz13_0 | clear hfz13_1 | clear hfz15_0 | clear hfz15_1 | clear hfz17_0 | clear hfz17_1 | clear hfz19_0 | clear hfz19_1 | clear hfz21_0 | clear hfz21_1 | clear hfz23_0 | clear hfz23_1 | clear hfz24_0 | clear hfz24_1 | clear hfz26_0 | clear hfz26_1 | clear hfz27_0 | clear hfz27_1)
  obtain ⟨kq, x43_4, rfl, HA, HJ4, BK631, HB⟩ := hcut; cases kq with
  | zero => exact absurd HA.out (by simp [tollbarlaw11_BlockRounds.j0])
  | succ kj4 =>
   have H := HA.out; clear HA; simp only [tollbarlaw11_BlockRounds.j0] at H
   by_cases c29 : x43_4 = true
   ·
    subst c29
    have H1 : (some true) = some r := by rw [if_pos rfl] at H; exact H
    clear H; have H := H1; clear H1; obtain rfl := Option.some.inj H
    go_wp2
    go_ret
    exact ⟨by first | rfl | (simp [errW_none, errW_some] <;> rfl) | (simp [*, errW_none, errW_some] <;> rfl), by repeat (first | (with_reducible first | exact HB.out | apply below_alloc | apply pw_below_drewN | apply below_drew1 | refine below_set ?_ GE631.out) | exact HB.out)⟩
   ·
    replace c29 := Bool.eq_false_iff.mpr c29; subst c29
    have H1 : (if 0 ≤ (l0_1.length : Int) then (if ((l0_1.length : Int) : Int).toNat ≤ 35184372088832 then (tollbarlaw11_BlockRounds.l0 kj4 l1 a2 a3 (List.replicate ((l0_1.length : Int) : Int).toNat 0) 0 0 a0_0 l0_1) else (none)) else (none)) = some r := by rw [if_neg (show ¬ (false = true) by decide)] at H; exact H
    clear H; have H := H1; clear H1
    by_cases c30 : 0 ≤ (l0_1.length : Int)
    ·
     rw [if_pos c30] at H; have c30b0 := eq_true c30; have c30b1 : decide (0 ≤ (l0_1.length : Int)) = true := decide_eq_true c30; clear c30
     by_cases c31 : ((l0_1.length : Int) : Int).toNat ≤ 35184372088832
     ·
      rw [if_pos c31] at H; have c31b0 := eq_true c31; have c31b1 : decide (((l0_1.length : Int) : Int).toNat ≤ 35184372088832) = true := decide_eq_true c31; clear c31
      obtain ⟨y633, hy633⟩ : ∃ y_ : List Int, y_ = (List.replicate ((l0_1.length : Int) : Int).toNat 0) := ⟨_, rfl⟩
      replace H : (tollbarlaw11_BlockRounds.l0 kj4 l1 a2 a3 y633 0 0 a0_0 l0_1) = some r := by first | (rw [hy633]; with_reducible exact H) | (have H2_ := (Option.bind_some _ _).symm.trans H; rw [hy633]; with_reducible exact H2_) | (have H2_ := (Option.bind_some _ _).symm.trans H; with_reducible exact H2_) | with_reducible exact H | (rw [hy633]; exact H) | exact H
      have Ny633 := ak hy633; clear hy633; have H' := ak H; clear H; have hcz32_0 : wc.cell? ⟨gb631, 0, none⟩ = some (.int .i64 a0_0) := (blk_cell BK631.out 0).trans rfl; have hcz32_1 : wc.cell? ⟨gb631, 1, none⟩ = some (.slice A0_1 l0_1.length c0_1) := (blk_cell BK631.out 1).trans rfl; have hfz32_0 := blk_frozen BK631.out 0; have hfz32_1 := blk_frozen BK631.out 1
      go_wp2_with (first | ((with_reducible refine gate_dst (N := 47) rfl ?_); (try (refine gate_guard (by rfl) ?_; dsimp only)); refine Kd.R_make (Kd.int .i64) _ 3 rfl (N := 47) rfl 25 _ _ rfl (l0_1.length : Int) rfl rfl Try.underlying25 (.int .i64 0) 8 info3 rfl (by decide) (by omega) 0 (ok := fun _ => True) (okp := fun _ => True) rfl (fun _ hk => hk) trivial (of_decide_eq_true (by first | (with_reducible assumption) | assumption)) (Nat.le_trans (Nat.mul_le_mul_right _ (of_decide_eq_true (by first | (with_reducible assumption) | assumption) : (l0_1.length : Int).toNat ≤ 35184372088832)) (by omega)) (Below.refl _ _) (Nat.le_refl _) ?_; intro v634 w33 ho34 hb hg_ hnew_; clear hg_ hnew_; (first | rw [← Ny633.out] at ho34 | (simp only [Int.reduceToNat] at ho34; rw [← Ny633.out] at ho34)); have HO635 := ak (Kd.R_lower ho34 (below_size HB.out)); replace BK631 := ak (blk_below BK631.out hb); replace HB := ak (below_step HB.out hb); clear hb ho34))
      go_loopg [9, 10, 11] kj4 (fun kq v9 v10 v11 w' => ∃ (x9_2 : List Int) (x10_2 : Int) (x11_2 : Int), v10 = .int .i64 x10_2 ∧ v11 = .int .i64 x11_2 ∧ Aside0 (tollbarlaw11_BlockRounds.l0 kq l1 a2 a3 x9_2 x10_2 x11_2 a0_0 l0_1 = some r) ∧ Aside0 (kq ≤ kj4) ∧ Aside0 (Kd.R (Kd.int .i64) 3 w' w.heap.size (fun _ => True) v9 x9_2) ∧ Aside0 (w'.heap[gb631]? = some (.cells #[.int .i64 a0_0, (.slice A0_1 l0_1.length c0_1)] 24 (0, 0))) ∧ Aside0 (Below w.heap.size w w'))
      case atStart => exact ⟨(y633), (0), (0), (by first | rfl | (simp; done) | (simp [*]; done)), (by first | rfl | (simp; done) | (simp [*]; done)), H', ⟨Nat.le_refl _⟩, ⟨HO635.out⟩, ⟨BK631.out⟩, ⟨HB.out⟩⟩
      case round =>
       clear H'
       repeat (first | clear c1 | clear c2 | clear p2 | clear c3 | clear c6 | clear c8 | clear c9 | clear c9b0 | clear c12 | clear c12b0 | clear c16 | clear c16b0 | clear c20 | clear c20b0 | clear c26 | clear c29 | clear c30 | clear c30b0 | clear c30b1 | clear c31 | clear c31b0 | clear c31b1 | clear hcz10_0 | clear hcz10_1 | clear hcz13_0 | clear hcz13_1 | clear hcz15_0 | clear hcz15_1 | clear hcz17_0 | clear hcz17_1 | clear hcz19_0 | clear hcz19_1 | clear hcz21_0 | clear hcz21_1 | clear hcz23_0 | clear hcz23_1 | clear hcz24_0 | clear hcz24_1 | clear hcz26_0 | clear hcz26_1 | clear hcz27_0 | clear hcz27_1 | clear hcz32_0 | clear hcz32_1 | clear hfz10_0 | clear hfz10_1 | clear hfz13_0 | clear hfz13_1 | clear hfz15_0 | clear hfz15_1 | clear hfz17_0 | clear hfz17_1 | clear hfz19_0 | clear hfz19_1 | clear hfz21_0 | clear hfz21_1 | clear hfz23_0 | clear hfz23_1 | clear hfz24_0 | clear hfz24_1 | clear hfz26_0 | clear hfz26_1 | clear hfz27_0 | clear hfz27_1 | clear hfz32_0 | clear hfz32_1)
       obtain ⟨x9_2, x10_2, x11_2, rfl, rfl, HA, HK2, HO_9, BK631, HB⟩ := hrel; cases gk with
       | zero => exact absurd HA.out (by simp [tollbarlaw11_BlockRounds.l0])
       | succ k2 =>
        have H := HA.out; clear HA; simp only [tollbarlaw11_BlockRounds.l0] at H
        by_cases c35 : x11_2 < a0_0
        ·
         rw [if_pos c35] at H; have c35b0 : decide (x11_2 < a0_0) = true := decide_eq_true c35; clear c35; replace H := Option.bind_eq_some_iff.mp H; obtain ⟨⟨t638, t641, t642⟩, A360, H⟩ := H; replace H : ((tollbarlaw0_Num.f t642).bind fun t643 => (if t643 = 0 then (if (t638.length : Int) = (x9_2.length : Int) then (if t641 < 0 then (none) else (if t641 > (wrap64 (4611686018427387904 - x10_2)) then (none) else (tollbarlaw11_BlockRounds.l0 k2 l1 a2 a3 t638 (wrap64 (x10_2 + t641)) (wrap64 (x11_2 + 1)) a0_0 l0_1))) else (none)) else (none))) = some r := H; have A36 := ak A360; clear A360; replace H := Option.bind_eq_some_iff.mp H; obtain ⟨t643, A370, H⟩ := H; replace H : (if t643 = 0 then (if (t638.length : Int) = (x9_2.length : Int) then (if t641 < 0 then (none) else (if t641 > (wrap64 (4611686018427387904 - x10_2)) then (none) else (tollbarlaw11_BlockRounds.l0 k2 l1 a2 a3 t638 (wrap64 (x10_2 + t641)) (wrap64 (x11_2 + 1)) a0_0 l0_1))) else (none)) else (none)) = some r := H; have A37 := ak A370; clear A370
         by_cases c38 : t643 = 0
         ·
          rw [if_pos c38] at H; have c38b0 : (t643 == 0) = true := beq_iff_eq.mpr c38; have c38b1 : (t643 != 0) = false := bne_eq_false_iff_eq.mpr c38; clear c38
          by_cases c39 : (t638.length : Int) = (x9_2.length : Int)
          ·
           rw [if_pos c39] at H; have c39b0 : ((t638.length : Int) == (x9_2.length : Int)) = true := beq_iff_eq.mpr c39; have c39b1 : ((t638.length : Int) != (x9_2.length : Int)) = false := bne_eq_false_iff_eq.mpr c39
           have c39b2 : (t638.length == x9_2.length) = true := by first | simpa using c39 | (simp at c39 ⊢; omega)
           clear c39
           by_cases c40 : t641 < 0
           ·
            rw [if_pos c40] at H; exact absurd H (by simp)
           ·
            rw [if_neg c40] at H; have c40b0 : decide (t641 < 0) = false := decide_eq_false c40; clear c40
            by_cases c41 : t641 > (wrap64 (4611686018427387904 - x10_2))
            ·
             rw [if_pos c41] at H; exact absurd H (by simp)
            ·
             rw [if_neg c41] at H; have c41b0 : decide ((wrap64 (4611686018427387904 - x10_2)) < t641) = false := decide_eq_false c41; clear c41; have H' := ak H; clear H; have hcz42_0 : wr.cell? ⟨gb631, 0, none⟩ = some (.int .i64 a0_0) := (blk_cell BK631.out 0).trans rfl; have hcz42_1 : wr.cell? ⟨gb631, 1, none⟩ = some (.slice A0_1 l0_1.length c0_1) := (blk_cell BK631.out 1).trans rfl; have hfz42_0 := blk_frozen BK631.out 0; have hfz42_1 := blk_frozen BK631.out 1; obtain ⟨Ao43, co43, eo43⟩ := Kd.R_slice HO_9.out; subst eo43
             go_wp2_with (first | ((with_reducible refine gate_callee (f := 15) rfl ?_); refine gl 60 Try.func15 #[.agg #[.int .i64 a0_0, .slice A0_1 l0_1.length c0_1], .slice A1 l1.length c1, .slice Ao43 x9_2.length co43, .int .i64 a2, .int .i64 a3, .int .i64 4611686018427387904] ?_; (with_reducible refine (block_Block.calls k2 a0_0 _ _ l0_1 _ _ l1 _ _ x9_2 a2 a3 4611686018427387904 t638 t641 t642 _ ?side1 ?side2 ?side3 ?side4 ?side5 ?side6 A36.out).mono ?_); (case side1 => exact (Kd.C_below HR0_1.out HB.out)); (case side2 => exact HC0_1.out); (case side3 => exact (Kd.C_below HR1.out HB.out)); (case side4 => exact HC1.out); (case side5 => exact (Kd.R_reads' HO_9.out).2.2); (case side6 => exact (Kd.R_reads' HO_9.out).2.1); rintro e w44 ⟨v639, rfl, ho0, hb⟩; refine ⟨_, rfl, ?_⟩; have HO640 := ak (Kd.R_lower (Kd.R_new' ho0 (Kd.R_lt HO_9.out)) (below_size HB.out)); replace HO_9 := ak (Kd.R_elder' HO_9.out (Kd.R_base ho0) hb); replace BK631 := ak (blk_below BK631.out hb); replace HB := ak (below_step HB.out hb); (try clear hb); (try clear hb2); (try clear hk); (try clear hi); (try clear ho0)) | ((with_reducible refine gate_callee (f := 18) rfl ?_); refine gl 65 Try.func18 #[.int .i64 t642] ?_; (with_reducible refine (tollbarlaw0_Num.calls t642 t643 _ A37.out).mono ?_); rintro e w' ⟨rfl, ⟨nd, rfl⟩⟩; refine ⟨_, rfl, ?_⟩; obtain ⟨Ao45, co45, eo45⟩ := Kd.R_slice HO640.out; subst eo45))
             go_roundg k2
             case measure => have := HJ4.out; have := HK2.out; omega
             case rel => exact ⟨(t638), (wrap64 (x10_2 + t641)), (wrap64 (x11_2 + 1)), (by first | rfl | (simp; done) | (simp [*]; done)), (by first | rfl | (simp; done) | (simp [*]; done)), H', ⟨by have := HJ4.out; have := HK2.out; omega⟩, ⟨by (with_reducible repeat (first | apply Kd.R_alloc | apply Kd.R_drewN | apply Kd.R_drew)); exact Kd.R_mono HO640.out (fun _ hk => trivial)⟩, ⟨by (with_reducible repeat (first | refine blk_drewN ?_ _ | refine blk_drew ?_ | refine blk_alloc ?_ _)); exact BK631.out⟩, ⟨by repeat (first | (with_reducible first | exact HB.out | apply below_alloc | apply pw_below_drewN | apply below_drew1 | refine below_set ?_ GE631.out) | exact HB.out)⟩⟩
          ·
           rw [if_neg c39] at H; exact absurd H (by simp)
         ·
          rw [if_neg c38] at H; exact absurd H (by simp)
        ·
         rw [if_neg c35] at H; have c35b0 : decide (x11_2 < a0_0) = false := decide_eq_false c35; clear c35; replace H := Option.bind_eq_some_iff.mp H; obtain ⟨t636, A460, H⟩ := H; replace H : (if t636 = true then ((tollbarref4_Least.f k2 a0_0 l0_1 l1 a2 a3).bind fun t637 => (some (x10_2 == t637))) else (none)) = some r := H; have A46 := ak A460; clear A460
         by_cases c47 : t636 = true
         ·
          subst c47
          have H1 : ((tollbarref4_Least.f k2 a0_0 l0_1 l1 a2 a3).bind fun t637 => (some (x10_2 == t637))) = some r := by rw [if_pos rfl] at H; exact H
          clear H; have H := H1; clear H1; replace H := Option.bind_eq_some_iff.mp H; obtain ⟨t637, A480, H⟩ := H; replace H : (some (x10_2 == t637)) = some r := H; have A48 := ak A480; clear A480; obtain rfl := Option.some.inj H; have hcz49_0 : wr.cell? ⟨gb631, 0, none⟩ = some (.int .i64 a0_0) := (blk_cell BK631.out 0).trans rfl; have hcz49_1 : wr.cell? ⟨gb631, 1, none⟩ = some (.slice A0_1 l0_1.length c0_1) := (blk_cell BK631.out 1).trans rfl; have hfz49_0 := blk_frozen BK631.out 0; have hfz49_1 := blk_frozen BK631.out 1
          go_wp2_with (first | ((with_reducible refine gate_callee (f := 17) rfl ?_); refine gl 88 Try.func17 #[] ?_; (with_reducible refine (tollbarlaw11_awake.calls k2  true _ A46.out).mono ?_); rintro e w50 ⟨rfl, hb⟩; refine ⟨_, rfl, ?_⟩; replace HO_9 := ak (Kd.R_below HO_9.out hb); replace BK631 := ak (blk_below BK631.out hb); replace HB := ak (below_step HB.out hb); (try clear hb); (try clear hb2); (try clear hk); (try clear hi); have hcz51_0 : w50.cell? ⟨gb631, 0, none⟩ = some (.int .i64 a0_0) := (blk_cell BK631.out 0).trans rfl; have hcz51_1 : w50.cell? ⟨gb631, 1, none⟩ = some (.slice A0_1 l0_1.length c0_1) := (blk_cell BK631.out 1).trans rfl; have hfz51_0 := blk_frozen BK631.out 0; have hfz51_1 := blk_frozen BK631.out 1) | (go_at_call 27; (with_reducible refine (tollbarref4_Least.calls k2 a0_0 _ _ l0_1 _ _ l1 a2 a3 t637 _ ?side1 ?side2 ?side3 ?side4 A48.out).mono ?_); (case side1 => exact (Kd.C_below HR0_1.out HB.out)); (case side2 => exact HC0_1.out); (case side3 => exact (Kd.C_below HR1.out HB.out)); (case side4 => exact HC1.out); rintro e w52 ⟨rfl, hb⟩; have n0_ := ak (Kd.R_below HO_9.out hb); have n1_ := ak (blk_below BK631.out hb); have n2_ := ak (below_step HB.out hb); clear HO_9; clear BK631; clear HB; have HO_9 := n0_; have BK631 := n1_; have HB := n2_; clear n0_ n1_ n2_; (try clear hb); (try clear hb2); (try clear hk); (try clear hi)))
          go_ret
          exact ⟨by first | rfl | (simp [errW_none, errW_some] <;> rfl) | (simp [*, errW_none, errW_some] <;> rfl), by repeat (first | (with_reducible first | exact HB.out | apply below_alloc | apply pw_below_drewN | apply below_drew1 | refine below_set ?_ GE631.out) | exact HB.out)⟩
         ·
          replace c47 := Bool.eq_false_iff.mpr c47; subst c47
          have H1 : (none) = some r := by rw [if_neg (show ¬ (false = true) by decide)] at H; exact H
          clear H; have H := H1; clear H1; exact absurd H (by simp)
     ·
      rw [if_neg c31] at H; exact absurd H (by simp)
    ·
     rw [if_neg c30] at H; exact absurd H (by simp)
end Go.Proofs.Ytnbhfcanknhkhaa.PAll
end
