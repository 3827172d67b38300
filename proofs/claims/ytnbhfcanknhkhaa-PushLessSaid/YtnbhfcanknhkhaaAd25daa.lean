/- Texts of this claim, one behind the other: F12. -/
import Derived.Test.YtnbhfcanknhkhaaA46b253
import Derived.Test.YtnbhfcanknhkhaaAea0f37
import Derived.Test.YtnbhfcanknhkhaaAd76bb8
import Derived.Test.YtnbhfcanknhkhaaA99c4e6
section
namespace Go.Proofs.Ytnbhfcanknhkhaa.PAll
open Go.RowKit Go.Proofs.YtnbhfcanknhkhaaW.PrintWords Go.Proofs.YtnbhfcanknhkhaaW.PrintLast Go.Proofs.YtnbhfcanknhkhaaW.PrintMore
attribute [local go_sem] max2_int min2_int max_two min_two max_three min_three max_four min_four   -- for this text's walks alone
set_option linter.unusedVariables false
set_option linter.unusedSimpArgs false
/-! ### tollbarlaw12_PushLess: function 12 -/
def tollbarlaw12_PushLess.j0 : Nat → List Int → Int → Int → Int → Int → Int → Int → Bool → Int → List (S53) → Option (Bool)
 | 0, _, _, _, _, _, _, _, _, _, _ => none
 | k + 1, x1, x2, x3, x4, x5, x6, x16, x56, xkb, xka => if x56 = true then (some true) else ((tollbarlaw0_CopyInts.f x1).bind fun t815 => (if 0 ≤ x5 then (if x5 < (t815.length : Int) then ((push_Push.f k xkb xka (t815.set (x5 : Int).toNat (wrap64 ((rd t815 x5) - x6))) x2 x3 x4).bind fun bt820 => ((tollbarlaw12_awake.f k).bind fun t825 => (if t825 = true then ((tollbarlaw0_Num.f bt820.2.2).bind fun t826 => (if t826 = 0 then (if bt820.2.1 ≤ x16 then (some (decide ((wrap64 (x16 - bt820.2.1)) ≤ x6))) else (none)) else (none))) else (none)))) else (none)) else (none)))
def tollbarlaw12_PushLess.f (k : Nat) (a0_0 : Int) (l0_1 : List (S53)) (l1 : List Int) (a2 : Int) (a3 : Int) (a4 : Int) (a5 : Int) (a6 : Int) : Option (Bool) := (push_Push.f k a0_0 l0_1 l1 a2 a3 a4).bind fun bt808 => ((tollbarlaw0_Num.f bt808.2.2).bind fun t813 => (if t813 = 0 then (if a5 < 0 then (tollbarlaw12_PushLess.j0 k l1 a2 a3 a4 a5 a6 bt808.2.1 true a0_0 l0_1) else (if a5 ≥ (l1.length : Int) then (tollbarlaw12_PushLess.j0 k l1 a2 a3 a4 a5 a6 bt808.2.1 true a0_0 l0_1) else (if a6 < 0 then (tollbarlaw12_PushLess.j0 k l1 a2 a3 a4 a5 a6 bt808.2.1 true a0_0 l0_1) else (if 0 ≤ a5 then (if a5 < (l1.length : Int) then (tollbarlaw12_PushLess.j0 k l1 a2 a3 a4 a5 a6 bt808.2.1 (decide (a6 > (rd l1 a5))) a0_0 l0_1) else (none)) else (none))))) else (tollbarlaw12_PushLess.j0 k l1 a2 a3 a4 a5 a6 bt808.2.1 true a0_0 l0_1)))
set_option maxHeartbeats 8000000 in
set_option maxRecDepth 100000 in
theorem tollbarlaw12_PushLess.calls (k : Nat) (a0_0 : Int) (A0_1 : Option Addr) (c0_1 : Nat) (l0_1 : List (S53)) (A1 : Option Addr) (c1 : Nat) (l1 : List Int) (a2 : Int) (a3 : Int) (a4 : Int) (a5 : Int) (a6 : Int) (r : Bool) (w : World) (hr0_1 : Kd.C k53 w A0_1 l0_1.length l0_1) (hc0_1 : l0_1.length ≤ c0_1) (hr1 : Kd.C (Kd.int .i64) w A1 l1.length l1) (hc1 : l1.length ≤ c1) (h : tollbarlaw12_PushLess.f k a0_0 l0_1 l1 a2 a3 a4 a5 a6 = some r) :
  Calls Try.prog 12 #[.agg #[.int .i64 a0_0, .slice A0_1 l0_1.length c0_1], .slice A1 l1.length c1, .int .i64 a2, .int .i64 a3, .int .i64 a4, .int .i64 a5, .int .i64 a6] w fun e w' => e = .returned (.bool r) ∧ Below w.heap.size w w' := by
 have hu24 := Try.underlying24; have HR0_1 := ak hr0_1; have HC0_1 := ak hc0_1; clear hr0_1 hc0_1; have HR1 := ak hr1; have HC1 := ak hc1; clear hr1 hc1; have HB := ak (Below.refl w.heap.size w); have H : ((push_Push.f k a0_0 l0_1 l1 a2 a3 a4).bind fun bt808 => ((tollbarlaw0_Num.f bt808.2.2).bind fun t813 => (if t813 = 0 then (if a5 < 0 then (tollbarlaw12_PushLess.j0 k l1 a2 a3 a4 a5 a6 bt808.2.1 true a0_0 l0_1) else (if a5 ≥ (l1.length : Int) then (tollbarlaw12_PushLess.j0 k l1 a2 a3 a4 a5 a6 bt808.2.1 true a0_0 l0_1) else (if a6 < 0 then (tollbarlaw12_PushLess.j0 k l1 a2 a3 a4 a5 a6 bt808.2.1 true a0_0 l0_1) else (if 0 ≤ a5 then (if a5 < (l1.length : Int) then (tollbarlaw12_PushLess.j0 k l1 a2 a3 a4 a5 a6 bt808.2.1 (decide (a6 > (rd l1 a5))) a0_0 l0_1) else (none)) else (none))))) else (tollbarlaw12_PushLess.j0 k l1 a2 a3 a4 a5 a6 bt808.2.1 true a0_0 l0_1)))) = some r := h; clear h; replace H := Option.bind_eq_some_iff.mp H; obtain ⟨⟨t808, t811, t812⟩, A80, H⟩ := H; replace H : ((tollbarlaw0_Num.f t812).bind fun t813 => (if t813 = 0 then (if a5 < 0 then (tollbarlaw12_PushLess.j0 k l1 a2 a3 a4 a5 a6 t811 true a0_0 l0_1) else (if a5 ≥ (l1.length : Int) then (tollbarlaw12_PushLess.j0 k l1 a2 a3 a4 a5 a6 t811 true a0_0 l0_1) else (if a6 < 0 then (tollbarlaw12_PushLess.j0 k l1 a2 a3 a4 a5 a6 t811 true a0_0 l0_1) else (if 0 ≤ a5 then (if a5 < (l1.length : Int) then (tollbarlaw12_PushLess.j0 k l1 a2 a3 a4 a5 a6 t811 (decide (a6 > (rd l1 a5))) a0_0 l0_1) else (none)) else (none))))) else (tollbarlaw12_PushLess.j0 k l1 a2 a3 a4 a5 a6 t811 true a0_0 l0_1))) = some r := H; have A8 := ak A80; clear A80; have HC9 := ak H; clear H
 go_enter Try.func12, Try.ntmps12
 go_upto_region 2 with (first | ((with_reducible refine gate_dst (N := 7) rfl ?_); (try (refine gate_guard (by rfl) ?_; dsimp only)); refine box_event ?hg (N := 7) ?hd (cs := #[.int .i64 a0_0, .slice A0_1 l0_1.length c0_1]) (t := 24) ?hr ?_; (case hd => rfl); (case hg => rfl); (case hr => first | (go_simp; done) | (go_simp; rfl)); intro gb807 hg w10 hbox hb; have BK807 := ak (hbox); have GW807 := ak ((by rw [hg]; exact (below_size HB.out) : w.heap.size ≤ gb807)); have GE807 := ak ((by rw [hg]; exact (below_size HB.out) : w.heap.size ≤ gb807)); replace HB := ak (below_step HB.out hb); clear hb hbox hg; have hcz11_0 : w10.cell? ⟨gb807, 0, none⟩ = some (.int .i64 a0_0) := (blk_cell BK807.out 0).trans rfl; have hcz11_1 : w10.cell? ⟨gb807, 1, none⟩ = some (.slice A0_1 l0_1.length c0_1) := (blk_cell BK807.out 1).trans rfl; have hfz11_0 := blk_frozen BK807.out 0; have hfz11_1 := blk_frozen BK807.out 1) | ((with_reducible refine gate_callee (f := 29) rfl ?_); refine gl 28 Try.func29 #[.agg #[.int .i64 a0_0, .slice A0_1 l0_1.length c0_1], .slice A1 l1.length c1, .int .i64 a2, .int .i64 a3, .int .i64 a4] ?_; (with_reducible refine (push_Push.calls k a0_0 _ _ l0_1 _ _ l1 a2 a3 a4 t808 t811 t812 _ ?side1 ?side2 ?side3 ?side4 A8.out).mono ?_); (case side1 => exact (Kd.C_below HR0_1.out HB.out)); (case side2 => exact HC0_1.out); (case side3 => exact (Kd.C_below HR1.out HB.out)); (case side4 => exact HC1.out); rintro e w12 ⟨v809, rfl, ho0, hb⟩; refine ⟨_, rfl, ?_⟩; have HO810 := ak (Kd.R_lower ho0 (below_size HB.out)); replace BK807 := ak (blk_below BK807.out hb); replace HB := ak (below_step HB.out hb); (try clear hb); (try clear hb2); (try clear hk); (try clear hi); (try clear ho0)))
 (try simp only [Act.put, List.setIfInBounds_toArray, List.set_cons_zero, List.set_cons_succ])
 go_cut [56] (fun v56 wc => ∃ (kq : Nat) (x56_8 : Bool), v56 = .bool x56_8 ∧ Aside0 (tollbarlaw12_PushLess.j0 kq l1 a2 a3 a4 a5 a6 t811 x56_8 a0_0 l0_1 = some r) ∧ Aside0 (kq ≤ k) ∧ Aside0 (wc.heap[gb807]? = some (.cells #[.int .i64 a0_0, (.slice A0_1 l0_1.length c0_1)] 24 (0, 0))) ∧ Aside0 (Below w.heap.size w wc))
 case first =>
  have H := HC9.out; clear HC9; replace H := Option.bind_eq_some_iff.mp H; obtain ⟨t813, A130, H⟩ := H; replace H : (if t813 = 0 then (if a5 < 0 then (tollbarlaw12_PushLess.j0 k l1 a2 a3 a4 a5 a6 t811 true a0_0 l0_1) else (if a5 ≥ (l1.length : Int) then (tollbarlaw12_PushLess.j0 k l1 a2 a3 a4 a5 a6 t811 true a0_0 l0_1) else (if a6 < 0 then (tollbarlaw12_PushLess.j0 k l1 a2 a3 a4 a5 a6 t811 true a0_0 l0_1) else (if 0 ≤ a5 then (if a5 < (l1.length : Int) then (tollbarlaw12_PushLess.j0 k l1 a2 a3 a4 a5 a6 t811 (decide (a6 > (rd l1 a5))) a0_0 l0_1) else (none)) else (none))))) else (tollbarlaw12_PushLess.j0 k l1 a2 a3 a4 a5 a6 t811 true a0_0 l0_1)) = some r := H; have A13 := ak A130; clear A130
  by_cases c14 : t813 = 0
  ·
   rw [if_pos c14] at H; have c14b0 : (t813 == 0) = true := beq_iff_eq.mpr c14; have c14b1 : (t813 != 0) = false := bne_eq_false_iff_eq.mpr c14; clear c14; (first | rw [c14b0] | (simp only [i64_w, i32_w]; rw [c14b0]) | skip)
   by_cases c15 : a5 < 0
   ·
    rw [if_pos c15] at H; have c15b0 : decide (a5 < 0) = true := decide_eq_true c15; clear c15; have H' := ak H; clear H
    go_wp2_with (first | ((with_reducible refine gate_callee (f := 18) rfl ?_); refine gl 33 Try.func18 #[.int .i64 t812] ?_; (with_reducible refine (tollbarlaw0_Num.calls t812 t813 _ A13.out).mono ?_); rintro e w' ⟨rfl, ⟨nd, rfl⟩⟩; refine ⟨_, rfl, ?_⟩))
    go_meet
    case rel => exact ⟨_, (true), (by first | rfl | (simp; done) | (simp [*]; done)), H', ⟨by first | omega | exact Nat.le_refl _⟩, ⟨by (with_reducible repeat (first | refine blk_drewN ?_ _ | refine blk_drew ?_ | refine blk_alloc ?_ _)); exact BK807.out⟩, ⟨by repeat (first | (with_reducible first | exact HB.out | apply below_alloc | apply pw_below_drewN | apply below_drew1 | refine below_set ?_ GE807.out) | exact HB.out)⟩⟩
   ·
    rw [if_neg c15] at H; have c15b0 : decide (a5 < 0) = false := decide_eq_false c15; clear c15
    by_cases c16 : a5 ≥ (l1.length : Int)
    ·
     rw [if_pos c16] at H; have c16b0 : decide ((l1.length : Int) ≤ a5) = true := decide_eq_true c16; clear c16; have H' := ak H; clear H
     go_wp2_with (first | ((with_reducible refine gate_callee (f := 18) rfl ?_); refine gl 33 Try.func18 #[.int .i64 t812] ?_; (with_reducible refine (tollbarlaw0_Num.calls t812 t813 _ A13.out).mono ?_); rintro e w' ⟨rfl, ⟨nd, rfl⟩⟩; refine ⟨_, rfl, ?_⟩))
     go_meet
     case rel => exact ⟨_, (true), (by first | rfl | (simp; done) | (simp [*]; done)), H', ⟨by first | omega | exact Nat.le_refl _⟩, ⟨by (with_reducible repeat (first | refine blk_drewN ?_ _ | refine blk_drew ?_ | refine blk_alloc ?_ _)); exact BK807.out⟩, ⟨by repeat (first | (with_reducible first | exact HB.out | apply below_alloc | apply pw_below_drewN | apply below_drew1 | refine below_set ?_ GE807.out) | exact HB.out)⟩⟩
    ·
     rw [if_neg c16] at H; have c16b0 : decide ((l1.length : Int) ≤ a5) = false := decide_eq_false c16; clear c16
     by_cases c17 : a6 < 0
     ·
      rw [if_pos c17] at H; have c17b0 : decide (a6 < 0) = true := decide_eq_true c17; clear c17; have H' := ak H; clear H
      go_wp2_with (first | ((with_reducible refine gate_callee (f := 18) rfl ?_); refine gl 33 Try.func18 #[.int .i64 t812] ?_; (with_reducible refine (tollbarlaw0_Num.calls t812 t813 _ A13.out).mono ?_); rintro e w' ⟨rfl, ⟨nd, rfl⟩⟩; refine ⟨_, rfl, ?_⟩))
      go_meet
      case rel => exact ⟨_, (true), (by first | rfl | (simp; done) | (simp [*]; done)), H', ⟨by first | omega | exact Nat.le_refl _⟩, ⟨by (with_reducible repeat (first | refine blk_drewN ?_ _ | refine blk_drew ?_ | refine blk_alloc ?_ _)); exact BK807.out⟩, ⟨by repeat (first | (with_reducible first | exact HB.out | apply below_alloc | apply pw_below_drewN | apply below_drew1 | refine below_set ?_ GE807.out) | exact HB.out)⟩⟩
     ·
      rw [if_neg c17] at H; have c17b0 : decide (a6 < 0) = false := decide_eq_false c17; clear c17
      by_cases c18 : 0 ≤ a5
      ·
       rw [if_pos c18] at H; have c18b0 : decide (0 ≤ a5) = true := decide_eq_true c18; clear c18
       by_cases c19 : a5 < (l1.length : Int)
       ·
        rw [if_pos c19] at H; have c19b0 : decide (a5 < (l1.length : Int)) = true := decide_eq_true c19; clear c19; have H' := ak H; clear H
        go_wp2_with (first | ((with_reducible refine gate_callee (f := 18) rfl ?_); refine gl 33 Try.func18 #[.int .i64 t812] ?_; (with_reducible refine (tollbarlaw0_Num.calls t812 t813 _ A13.out).mono ?_); rintro e w' ⟨rfl, ⟨nd, rfl⟩⟩; refine ⟨_, rfl, ?_⟩; have p814 : 0 ≤ (a5 : Int) := of_decide_eq_true (by first | (with_reducible assumption) | assumption); have q814 : a5 < (l1.length : Int) := of_decide_eq_true (by first | (with_reducible assumption) | assumption); obtain ⟨ad814, e814, hx814_0⟩ := Kd.at_int HR1.out a5 p814 q814; cases e814; replace hx814_0 := (HB.out.cell (World.block_lt_of_cell? w _ hx814_0)).trans hx814_0; replace p814 := eq_true p814; replace q814 := eq_true q814))
        go_meet
        case rel => exact ⟨_, (decide (a6 > (rd l1 a5))), (by first | rfl | (simp; done) | (simp [*]; done)), H', ⟨by first | omega | exact Nat.le_refl _⟩, ⟨by (with_reducible repeat (first | refine blk_drewN ?_ _ | refine blk_drew ?_ | refine blk_alloc ?_ _)); exact BK807.out⟩, ⟨by repeat (first | (with_reducible first | exact HB.out | apply below_alloc | apply pw_below_drewN | apply below_drew1 | refine below_set ?_ GE807.out) | exact HB.out)⟩⟩
       ·
        rw [if_neg c19] at H; exact absurd H (by simp)
      ·
       rw [if_neg c18] at H; exact absurd H (by simp)
  ·
   rw [if_neg c14] at H; have c14b0 : (t813 == 0) = false := beq_eq_false_iff_ne.mpr c14; have c14b1 : (t813 != 0) = true := bne_iff_ne.mpr c14; (first | rw [c14b0] | (simp only [i64_w, i32_w]; rw [c14b0]) | skip); have H' := ak H; clear H
   go_wp2_with (first | ((with_reducible refine gate_callee (f := 18) rfl ?_); refine gl 33 Try.func18 #[.int .i64 t812] ?_; (with_reducible refine (tollbarlaw0_Num.calls t812 t813 _ A13.out).mono ?_); rintro e w' ⟨rfl, ⟨nd, rfl⟩⟩; refine ⟨_, rfl, ?_⟩))
   go_meet
   case rel => exact ⟨_, (true), (by first | rfl | (simp; done) | (simp [*]; done)), H', ⟨by first | omega | exact Nat.le_refl _⟩, ⟨by (with_reducible repeat (first | refine blk_drewN ?_ _ | refine blk_drew ?_ | refine blk_alloc ?_ _)); exact BK807.out⟩, ⟨by repeat (first | (with_reducible first | exact HB.out | apply below_alloc | apply pw_below_drewN | apply below_drew1 | refine below_set ?_ GE807.out) | exact HB.out)⟩⟩
 case rest =>
  clear HC9
  repeat (first | clear c1 | clear c2 | clear p2 | clear p8 | clear q8 | clear hx8 | clear c12 | clear c14 | clear c14b0 | clear c14b1 | clear c15 | clear c15b0 | clear c16 | clear c16b0 | clear c17 | clear c17b0 | clear c18 | clear c18b0 | clear c19 | clear c19b0 | clear hcz11_0 | clear hcz11_1 | clear hfz11_0 | clear hfz11_1 | clear hx814_0 | clear p814 | clear q814)
  obtain ⟨kq, x56_8, rfl, HA, HJ8, BK807, HB⟩ := hcut; cases kq with
  | zero => exact absurd HA.out (by simp [tollbarlaw12_PushLess.j0])
  | succ kj8 =>
   have H := HA.out; clear HA; simp only [tollbarlaw12_PushLess.j0] at H
   by_cases c20 : x56_8 = true
   ·
    subst c20
    have H1 : (some true) = some r := by rw [if_pos rfl] at H; exact H
    clear H; have H := H1; clear H1; obtain rfl := Option.some.inj H
    go_wp2
    go_ret
    exact ⟨by first | rfl | (simp [errW_none, errW_some] <;> rfl) | (simp [*, errW_none, errW_some] <;> rfl), by repeat (first | (with_reducible first | exact HB.out | apply below_alloc | apply pw_below_drewN | apply below_drew1 | refine below_set ?_ GE807.out) | exact HB.out)⟩
   ·
    replace c20 := Bool.eq_false_iff.mpr c20; subst c20
    have H1 : ((tollbarlaw0_CopyInts.f l1).bind fun t815 => (if 0 ≤ a5 then (if a5 < (t815.length : Int) then ((push_Push.f kj8 a0_0 l0_1 (t815.set (a5 : Int).toNat (wrap64 ((rd t815 a5) - a6))) a2 a3 a4).bind fun bt820 => ((tollbarlaw12_awake.f kj8).bind fun t825 => (if t825 = true then ((tollbarlaw0_Num.f bt820.2.2).bind fun t826 => (if t826 = 0 then (if bt820.2.1 ≤ t811 then (some (decide ((wrap64 (t811 - bt820.2.1)) ≤ a6))) else (none)) else (none))) else (none)))) else (none)) else (none))) = some r := by rw [if_neg (show ¬ (false = true) by decide)] at H; exact H
    clear H; have H := H1; clear H1; replace H := Option.bind_eq_some_iff.mp H; obtain ⟨t815, A210, H⟩ := H; replace H : (if 0 ≤ a5 then (if a5 < (t815.length : Int) then ((push_Push.f kj8 a0_0 l0_1 (t815.set (a5 : Int).toNat (wrap64 ((rd t815 a5) - a6))) a2 a3 a4).bind fun bt820 => ((tollbarlaw12_awake.f kj8).bind fun t825 => (if t825 = true then ((tollbarlaw0_Num.f bt820.2.2).bind fun t826 => (if t826 = 0 then (if bt820.2.1 ≤ t811 then (some (decide ((wrap64 (t811 - bt820.2.1)) ≤ a6))) else (none)) else (none))) else (none)))) else (none)) else (none)) = some r := H; have A21 := ak A210; clear A210
    by_cases c22 : 0 ≤ a5
    ·
     rw [if_pos c22] at H; have c22b0 : decide (0 ≤ a5) = true := decide_eq_true c22; clear c22
     by_cases c23 : a5 < (t815.length : Int)
     ·
      rw [if_pos c23] at H; have c23b0 : decide (a5 < (t815.length : Int)) = true := decide_eq_true c23; clear c23
      obtain ⟨y819, hy819⟩ : ∃ y_ : List Int, y_ = (t815.set (a5 : Int).toNat (wrap64 ((rd t815 a5) - a6))) := ⟨_, rfl⟩
      replace H : ((push_Push.f kj8 a0_0 l0_1 y819 a2 a3 a4).bind fun bt820 => ((tollbarlaw12_awake.f kj8).bind fun t825 => (if t825 = true then ((tollbarlaw0_Num.f bt820.2.2).bind fun t826 => (if t826 = 0 then (if bt820.2.1 ≤ t811 then (some (decide ((wrap64 (t811 - bt820.2.1)) ≤ a6))) else (none)) else (none))) else (none)))) = some r := by first | (rw [hy819]; with_reducible exact H) | (have H2_ := (Option.bind_some _ _).symm.trans H; rw [hy819]; with_reducible exact H2_) | (have H2_ := (Option.bind_some _ _).symm.trans H; with_reducible exact H2_) | with_reducible exact H | (rw [hy819]; exact H) | exact H
      have Ny819 := ak hy819; clear hy819; replace H := Option.bind_eq_some_iff.mp H; obtain ⟨⟨t820, t823, t824⟩, A250, H⟩ := H; replace H : ((tollbarlaw12_awake.f kj8).bind fun t825 => (if t825 = true then ((tollbarlaw0_Num.f t824).bind fun t826 => (if t826 = 0 then (if t823 ≤ t811 then (some (decide ((wrap64 (t811 - t823)) ≤ a6))) else (none)) else (none))) else (none))) = some r := H; have A25 := ak A250; clear A250; replace H := Option.bind_eq_some_iff.mp H; obtain ⟨t825, A260, H⟩ := H; replace H : (if t825 = true then ((tollbarlaw0_Num.f t824).bind fun t826 => (if t826 = 0 then (if t823 ≤ t811 then (some (decide ((wrap64 (t811 - t823)) ≤ a6))) else (none)) else (none))) else (none)) = some r := H; have A26 := ak A260; clear A260
      by_cases c27 : t825 = true
      ·
       subst c27
       have H1 : ((tollbarlaw0_Num.f t824).bind fun t826 => (if t826 = 0 then (if t823 ≤ t811 then (some (decide ((wrap64 (t811 - t823)) ≤ a6))) else (none)) else (none))) = some r := by rw [if_pos rfl] at H; exact H
       clear H; have H := H1; clear H1; replace H := Option.bind_eq_some_iff.mp H; obtain ⟨t826, A280, H⟩ := H; replace H : (if t826 = 0 then (if t823 ≤ t811 then (some (decide ((wrap64 (t811 - t823)) ≤ a6))) else (none)) else (none)) = some r := H; have A28 := ak A280; clear A280
       by_cases c29 : t826 = 0
       ·
        rw [if_pos c29] at H; have c29b0 : (t826 == 0) = true := beq_iff_eq.mpr c29; have c29b1 : (t826 != 0) = false := bne_eq_false_iff_eq.mpr c29; clear c29
        by_cases c30 : t823 ≤ t811
        ·
         rw [if_pos c30] at H; have c30b0 : decide (t823 ≤ t811) = true := decide_eq_true c30; clear c30; obtain rfl := Option.some.inj H
         go_wp2_with (first | ((with_reducible refine gate_callee (f := 33) rfl ?_); refine gl 58 Try.func33 #[.slice A1 l1.length c1] ?_; (with_reducible refine (tollbarlaw0_CopyInts.calls _ _ l1 t815 _ ?side1 ?side2 A21.out).mono ?_); (case side1 => exact (Kd.C_below HR1.out HB.out)); (case side2 => exact HC1.out); rintro e w31 ⟨v816, rfl, ho0, hb⟩; refine ⟨_, rfl, ?_⟩; have HO817 := ak (Kd.R_lower ho0 (below_size HB.out)); replace BK807 := ak (blk_below BK807.out hb); replace HB := ak (below_step HB.out hb); (try clear hb); (try clear hb2); (try clear hk); (try clear hi); (try clear ho0); obtain ⟨Ao32, co32, eo32⟩ := Kd.R_slice HO817.out; subst eo32; have p818 : 0 ≤ (a5 : Int) := of_decide_eq_true (by first | (with_reducible assumption) | assumption); have q818 : a5 < (t815.length : Int) := of_decide_eq_true (by first | (with_reducible assumption) | assumption); obtain ⟨ad818, e818, hx818_0⟩ := Kd.at_int (Kd.R_reads' HO817.out).2.2 a5 p818 q818; cases e818; replace p818 := eq_true p818; replace q818 := eq_true q818; have p24 : 0 ≤ (a5 : Int) := of_decide_eq_true (by first | (with_reducible assumption) | assumption); have q24 : (a5 : Int) < ((t815.length : Int) : Int) := of_decide_eq_true (by first | (with_reducible assumption) | assumption); obtain ⟨go24, co24, eo24, gb24, gl24, cl24, HG24⟩ := Kd.R_form HO817.out (by omega); (first | cases eo24 | (injection eo24 with ea_ en_ ec_; (first | subst ea_ | (injection ea_ with ea_; subst ea_)); subst ec_; clear en_)); have GB24 := ak gb24; have GG24 := ak HG24; clear gb24 gl24 HG24; (first | simp only [add_plain] at hx818_0 | skip); obtain ⟨hx24_0, hf24_0⟩ := Kd.R_celln 0 HO817.out (a5 : Int) p24 q24; replace p24 := eq_true p24; replace q24 := eq_true q24; obtain ⟨hy33_, hz33_⟩ := Kd.R_celln 0 HO817.out (a5 : Int) (of_decide_eq_true (by first | (with_reducible assumption) | assumption)) (of_decide_eq_true (by first | (with_reducible assumption) | assumption)); have HP33 := Kd.R_putg HO817.out (a5 : Int) (wrap64 ((rd t815 a5) - a6))) | ((with_reducible refine gate_store (t := 3) (p := 67) rfl ?_); refine store_event (t := 3) (p := 67) (v := ?vo_w34) (w1 := (w31.setCell ⟨go24, (a5 : Int).toNat, none⟩ (.int .i64 (wrap64 ((rd t815 a5) - a6))))) ?hg ?ho ?hn ?hr ?_; (case ho => rfl); (case hg => rfl); (case hn => rfl); (case hr => first | (go_simp; done) | (go_simp; rfl)); intro w34 hw; have hg : w31.grownBy w34 (some go24) := (by rw [hw]; exact HP33.2); have hp_ : Kd.R (Kd.int .i64) 3 w34 w.heap.size (fun _ => True) (.slice (some ⟨go24, 0, none⟩) t815.length co32) y819 := (by rw [hw, Ny819.out]; exact HP33.1); clear HP33; replace BK807 := ak (blk_grown BK807.out hg (Kd.R_ne HO817.out BK807.out (by decide))); replace HO817 := ak (hp_); replace HB := ak ((by rw [hw]; exact below_set (HB.out) GB24.out : Below w.heap.size w w34)); clear hg hw hp_; have hcz35_0 : w34.cell? ⟨gb807, 0, none⟩ = some (.int .i64 a0_0) := (blk_cell BK807.out 0).trans rfl; have hcz35_1 : w34.cell? ⟨gb807, 1, none⟩ = some (.slice A0_1 l0_1.length c0_1) := (blk_cell BK807.out 1).trans rfl; have hfz35_0 := blk_frozen BK807.out 0; have hfz35_1 := blk_frozen BK807.out 1) | ((with_reducible refine gate_callee (f := 29) rfl ?_); refine goesL_ (some 74) rfl rfl Try.func29 (by kernel_rfl) rfl #[.agg #[.int .i64 a0_0, .slice A0_1 l0_1.length c0_1], .slice (some ⟨go24, 0, none⟩) y819.length co32, .int .i64 a2, .int .i64 a3, .int .i64 a4] rfl (by (try simp only [List.map_toArray, List.map_cons, List.map_nil]); first | done | (rw [show y819.length = t815.length from (Kd.R_reads' HO817.out).1.symm] <;> rfl) | rfl | (simp only [List.length_drop, List.length_take]; rfl)) ?_; (with_reducible refine (push_Push.calls kj8 a0_0 _ _ l0_1 _ _ y819 a2 a3 a4 t820 t823 t824 _ ?side1 ?side2 ?side3 ?side4 A25.out).mono ?_); (case side1 => exact (Kd.C_below HR0_1.out HB.out)); (case side2 => exact HC0_1.out); (case side3 => exact (Kd.R_reads' HO817.out).2.2); (case side4 => rw [show y819.length = t815.length from (Kd.R_reads' HO817.out).1.symm]; exact (Kd.R_reads' HO817.out).2.1); rintro e w36 ⟨v821, rfl, ho0, hb⟩; refine ⟨_, rfl, ?_⟩; have HO822 := ak (Kd.R_lower (Kd.R_new' ho0 (Kd.R_lt HO817.out)) (below_size HB.out)); replace HO817 := ak (Kd.R_elder' HO817.out (Kd.R_base ho0) hb); replace BK807 := ak (blk_below BK807.out hb); replace HB := ak (below_step HB.out hb); (try clear hb); (try clear hb2); (try clear hk); (try clear hi); (try clear ho0)) | ((with_reducible refine gate_callee (f := 31) rfl ?_); refine gl 78 Try.func31 #[] ?_; (with_reducible refine (tollbarlaw12_awake.calls kj8  true _ A26.out).mono ?_); rintro e w37 ⟨rfl, hb⟩; refine ⟨_, rfl, ?_⟩; replace HO817 := ak (Kd.R_below HO817.out hb); replace HO822 := ak (Kd.R_below HO822.out hb); replace BK807 := ak (blk_below BK807.out hb); replace HB := ak (below_step HB.out hb); (try clear hb); (try clear hb2); (try clear hk); (try clear hi)) | (go_at_call 18; (with_reducible refine (tollbarlaw0_Num.calls t824 t826 _ A28.out).mono ?_); rintro e w' ⟨rfl, ⟨nd, rfl⟩⟩))
         go_ret
         exact ⟨by first | rfl | (simp [errW_none, errW_some] <;> rfl) | (simp [*, errW_none, errW_some] <;> rfl), by repeat (first | (with_reducible first | exact HB.out | apply below_alloc | apply pw_below_drewN | apply below_drew1 | refine below_set ?_ GE807.out) | exact HB.out)⟩
        ·
         rw [if_neg c30] at H; exact absurd H (by simp)
       ·
        rw [if_neg c29] at H; exact absurd H (by simp)
      ·
       replace c27 := Bool.eq_false_iff.mpr c27; subst c27
       have H1 : (none) = some r := by rw [if_neg (show ¬ (false = true) by decide)] at H; exact H
       clear H; have H := H1; clear H1; exact absurd H (by simp)
     ·
      rw [if_neg c23] at H; exact absurd H (by simp)
    ·
     rw [if_neg c22] at H; exact absurd H (by simp)
end Go.Proofs.Ytnbhfcanknhkhaa.PAll
end
