/- Texts of this claim, one behind the other: F56, F57, F58, F35, F52, F27. -/
import Derived.Test.YtnbhfcanknhkhaaA46b253
import Derived.Test.YtnbhfcanknhkhaaA29cd3a
section
namespace Go.Proofs.Ytnbhfcanknhkhaa.PAll
open Go.RowKit Go.Proofs.YtnbhfcanknhkhaaW.PrintWords Go.Proofs.YtnbhfcanknhkhaaW.PrintLast Go.Proofs.YtnbhfcanknhkhaaW.PrintMore
attribute [local go_sem] max2_int min2_int max_two min_two max_three min_three max_four min_four   -- for this text's walks alone
set_option linter.unusedVariables false
set_option linter.unusedSimpArgs false
/-! ### tollbarref4_VertsMay: function 56 -/
def tollbarref4_VertsMay.l0 : Nat → List Int → Int → Int → List (S53) → Option (Bool)
 | 0, _, _, _, _ => none
 | k + 1, x1, x5, xka, xkb => if x5 < (x1.length : Int) then (if 0 ≤ x5 then ((tollbarref4_Vertex.f xka xkb (rd x1 x5)).bind fun t598 => (if t598 = true then (if x5 > 0 then (if 0 ≤ (wrap64 (x5 - 1)) then (if (wrap64 (x5 - 1)) < (x1.length : Int) then (if (rd x1 x5) ≤ (rd x1 (wrap64 (x5 - 1))) then (some false) else (tollbarref4_VertsMay.l0 k x1 (wrap64 (x5 + 1)) xka xkb)) else (none)) else (none)) else (tollbarref4_VertsMay.l0 k x1 (wrap64 (x5 + 1)) xka xkb)) else (some false))) else (none)) else (some true)
def tollbarref4_VertsMay.f (k : Nat) (a0_0 : Int) (l0_1 : List (S53)) (l1 : List Int) : Option (Bool) := tollbarref4_VertsMay.l0 k l1 0 a0_0 l0_1
def tollbarref4_VertsMay.T4 : Bool × List (List Nat × List Nat) := (true, [([], []), ([], []), ([], []), ([1, 2], [1, 2]), ([3], [3]), ([0, 4], [0, 4]), ([5], [5]), ([6, 5], [6]), ([7], [7]), ([8, 7], [7, 8]), ([9, 7, 7], [7, 9]), ([10], [10]), ([10], [10]), ([11, 12, 10], [10, 11, 12]), ([13, 10], [10, 13]), ([10], [10]), ([10], [10]), ([16, 10], [10, 16]), ([15, 17, 10], [10, 15, 17]), ([18, 10], [10, 18]), ([14, 19, 10], [10, 14, 19]), ([10, 20, 7], [7, 10, 20]), ([7, 21], [7, 21])])
def tollbarref4_VertsMay.B4 : List Nat := [0, 0, 0, 6, 14, 31, 63, 127, 255, 511, 1023, 2047, 2047, 8191, 16383, 2047, 2047, 67583, 231423, 493567, 1048575, 2097151, 4194303]
theorem tollbarref4_VertsMay.tab4 : rtab .any (opsOf Try.f56 4) = tollbarref4_VertsMay.T4 := by kernel_rfl
theorem tollbarref4_VertsMay.bits4 : waitsOk tollbarref4_VertsMay.T4.2 tollbarref4_VertsMay.B4 = true := by kernel_rfl
set_option maxHeartbeats 8000000 in
set_option maxRecDepth 100000 in
theorem tollbarref4_VertsMay.calls (k : Nat) (a0_0 : Int) (A0_1 : Option Addr) (c0_1 : Nat) (l0_1 : List (S53)) (A1 : Option Addr) (c1 : Nat) (l1 : List Int) (r : Bool) (w : World) (hr0_1 : Kd.C k53 w A0_1 l0_1.length l0_1) (hc0_1 : l0_1.length ≤ c0_1) (hr1 : Kd.C (Kd.int .i64) w A1 l1.length l1) (hc1 : l1.length ≤ c1) (h : tollbarref4_VertsMay.f k a0_0 l0_1 l1 = some r) :
  Calls Try.prog 56 #[.agg #[.int .i64 a0_0, .slice A0_1 l0_1.length c0_1], .slice A1 l1.length c1] w fun e w' => e = .returned (.bool r) ∧ Below w.heap.size w w' := by
 have hu24 := Try.underlying24; have HR0_1 := ak hr0_1; have HC0_1 := ak hc0_1; clear hr0_1 hc0_1; have HR1 := ak hr1; have HC1 := ak hc1; clear hr1 hc1; have HB := ak (Below.refl w.heap.size w); have H : (tollbarref4_VertsMay.l0 k l1 0 a0_0 l0_1) = some r := h; clear h; have H' := ak H; clear H
 go_enter Try.func56, Try.ntmps56
 go_wp2_with (first | ((with_reducible refine gate_dst (N := 2) rfl ?_); refine box_event ?hg (N := 2) ?hd (cs := #[.int .i64 a0_0, .slice A0_1 l0_1.length c0_1]) (t := 24) ?hr ?_; (case hd => rfl); (case hg => rfl); (case hr => first | (go_simp; done) | (go_simp; rfl)); intro gb596 hg w3 hbox hb; have BK596 := ak (hbox); have GW596 := ak ((by rw [hg]; exact (below_size HB.out) : w.heap.size ≤ gb596)); have GE596 := ak ((by rw [hg]; exact (below_size HB.out) : w.heap.size ≤ gb596)); replace HB := ak (below_step HB.out hb); clear hb hbox hg))
 go_loopg [5] k (fun kq v5 w' => ∃ (x5_1 : Int), v5 = .int .i64 x5_1 ∧ Aside0 (tollbarref4_VertsMay.l0 kq l1 x5_1 a0_0 l0_1 = some r) ∧ Aside0 (kq ≤ k) ∧ Aside0 (w'.heap[gb596]? = some (.cells #[.int .i64 a0_0, (.slice A0_1 l0_1.length c0_1)] 24 (0, 0))) ∧ Aside0 (Below w.heap.size w w'))
 case atStart => exact ⟨(0), (by first | rfl | (simp; done) | (simp [*]; done)), H', ⟨Nat.le_refl _⟩, ⟨BK596.out⟩, ⟨HB.out⟩⟩
 case round =>
  clear H'
  try clear c1
  try clear p2
  obtain ⟨x5_1, rfl, HA, HK1, BK596, HB⟩ := hrel; cases gk with
  | zero => exact absurd HA.out (by simp [tollbarref4_VertsMay.l0])
  | succ k1 =>
   have H := HA.out; clear HA; simp only [tollbarref4_VertsMay.l0] at H
   by_cases c4 : x5_1 < (l1.length : Int)
   ·
    rw [if_pos c4] at H; have c4b0 : decide (x5_1 < (l1.length : Int)) = true := decide_eq_true c4; clear c4
    by_cases c5 : 0 ≤ x5_1
    ·
     rw [if_pos c5] at H; have c5b0 : decide (0 ≤ x5_1) = true := decide_eq_true c5; clear c5; replace H := Option.bind_eq_some_iff.mp H; obtain ⟨t598, A60, H⟩ := H; replace H : (if t598 = true then (if x5_1 > 0 then (if 0 ≤ (wrap64 (x5_1 - 1)) then (if (wrap64 (x5_1 - 1)) < (l1.length : Int) then (if (rd l1 x5_1) ≤ (rd l1 (wrap64 (x5_1 - 1))) then (some false) else (tollbarref4_VertsMay.l0 k1 l1 (wrap64 (x5_1 + 1)) a0_0 l0_1)) else (none)) else (none)) else (tollbarref4_VertsMay.l0 k1 l1 (wrap64 (x5_1 + 1)) a0_0 l0_1)) else (some false)) = some r := H; have A6 := ak A60; clear A60
     by_cases c7 : t598 = true
     ·
      subst c7
      have H1 : (if x5_1 > 0 then (if 0 ≤ (wrap64 (x5_1 - 1)) then (if (wrap64 (x5_1 - 1)) < (l1.length : Int) then (if (rd l1 x5_1) ≤ (rd l1 (wrap64 (x5_1 - 1))) then (some false) else (tollbarref4_VertsMay.l0 k1 l1 (wrap64 (x5_1 + 1)) a0_0 l0_1)) else (none)) else (none)) else (tollbarref4_VertsMay.l0 k1 l1 (wrap64 (x5_1 + 1)) a0_0 l0_1)) = some r := by rw [if_pos rfl] at H; exact H
      clear H; have H := H1; clear H1
      by_cases c8 : x5_1 > 0
      ·
       rw [if_pos c8] at H; have c8b0 : decide (0 < x5_1) = true := decide_eq_true c8; clear c8
       obtain ⟨ji9, hji9⟩ : ∃ j_ : Int, (wrap64 (x5_1 - 1)) = j_ := ⟨_, rfl⟩
       replace H : (if 0 ≤ (ji9) then (if (ji9) < (l1.length : Int) then (if (rd l1 x5_1) ≤ (rd l1 (ji9)) then (some false) else (tollbarref4_VertsMay.l0 k1 l1 (wrap64 (x5_1 + 1)) a0_0 l0_1)) else (none)) else (none)) = some r := by first | (rw [hji9] at H; exact H) | (simp only [hji9] at H ⊢; exact H)
       (try rw [hji9] at A6); have hji9w : (IntKind.i64.wrap (x5_1 - 1)) = ji9 := (i64_w _).trans hji9
       by_cases c10 : 0 ≤ (ji9)
       ·
        rw [if_pos c10] at H; have c10b0 : decide (0 ≤ (ji9)) = true := decide_eq_true c10; clear c10
        by_cases c11 : (ji9) < (l1.length : Int)
        ·
         rw [if_pos c11] at H; have c11b0 : decide ((ji9) < (l1.length : Int)) = true := decide_eq_true c11; clear c11
         by_cases c12 : (rd l1 x5_1) ≤ (rd l1 (ji9))
         ·
          rw [if_pos c12] at H; have c12b0 : decide ((rd l1 x5_1) ≤ (rd l1 (ji9))) = true := decide_eq_true c12; clear c12; obtain rfl := Option.some.inj H
          try go_wp2
          replace BK596 := ak (blk_drew BK596.out); replace HB := ak (below_drew1 HB.out); have p597 : 0 ≤ (x5_1 : Int) := of_decide_eq_true (by first | (with_reducible assumption) | assumption); have q597 : x5_1 < (l1.length : Int) := of_decide_eq_true (by first | (with_reducible assumption) | assumption); obtain ⟨ad597, e597, hx597_0⟩ := Kd.at_int HR1.out x5_1 p597 q597; have hw597_0 := hx597_0; cases e597; replace hx597_0 := (HB.out.cell (World.block_lt_of_cell? w _ hx597_0)).trans hx597_0; replace p597 := eq_true p597; replace q597 := eq_true q597; have p599 : 0 ≤ (x5_1 : Int) := of_decide_eq_true (by first | (with_reducible assumption) | assumption); have q599 : x5_1 < (l1.length : Int) := of_decide_eq_true (by first | (with_reducible assumption) | assumption); obtain ⟨ad599, e599, hx599_0⟩ := Kd.at_int HR1.out x5_1 p599 q599; have hw599_0 := hx599_0
          obtain rfl : ad597 = ad599 := (by injection e599)
          replace hx599_0 := (HB.out.cell (World.block_lt_of_cell? w _ hx599_0)).trans hx599_0; replace p599 := eq_true p599; replace q599 := eq_true q599; have p600 : 0 ≤ ((ji9) : Int) := of_decide_eq_true (by first | (with_reducible assumption) | assumption); have q600 : (ji9) < (l1.length : Int) := of_decide_eq_true (by first | (with_reducible assumption) | assumption); obtain ⟨ad600, e600, hx600_0⟩ := Kd.at_int HR1.out (ji9) p600 q600; have hw600_0 := hx600_0
          obtain rfl : ad597 = ad600 := (by injection e600)
          replace hx600_0 := (HB.out.cell (World.block_lt_of_cell? w _ hx600_0)).trans hx600_0; replace p600 := eq_true p600; replace q600 := eq_true q600; refine start_ (n := 23) (S := fun w' => w'.cell? ⟨gb596, 0, none⟩ = some (.int .i64 a0_0) ∧ w'.cell? ⟨gb596, 1, none⟩ = some (.slice A0_1 l0_1.length c0_1) ∧ w'.cell? (ad597.add (x5_1).toNat) = some (.int .i64 (rd l1 x5_1)) ∧ w'.cell? (ad597.add (x5_1).toNat) = some (.int .i64 (rd l1 x5_1)) ∧ w'.cell? (ad597.add ((ji9)).toNat) = some (.int .i64 (rd l1 (ji9)))) (ds := []) (mk 23 0) (by kernel_rfl) rfl (by kernel_rfl) ⟨(blk_cell BK596.out 0).trans rfl, (blk_cell BK596.out 1).trans rfl, ((HB.out.cell (World.block_lt_of_cell? w _ hw597_0)).trans hw597_0), ((HB.out.cell (World.block_lt_of_cell? w _ hw599_0)).trans hw599_0), ((HB.out.cell (World.block_lt_of_cell? w _ hw600_0)).trans hw600_0)⟩ (fun hHeld => ?_); refine with_tabW tollbarref4_VertsMay.tab4 tollbarref4_VertsMay.bits4 (fun HT_ HW_ => ?_); generalize wr.drew = w13 at BK596 HB hx597_0 hx599_0 hx600_0 hHeld ⊢; refine pu 1 13 (mk 23 2) HT_ ?_; refine pu 2 14 (mk 23 6) HT_ ?_; refine pu 3 15 (mk 23 14) HT_ ?_; refine ta 0 12 (mk 23 15) rfl rfl HT_ HW_ hHeld (Or.inl ⟨by rfl, by rintro w' ⟨s0, s1, s2, s3, s4⟩; go_simp; with_reducible rfl⟩) ?_; refine ta 4 16 (mk 23 31) rfl rfl HT_ HW_ hHeld (Or.inl ⟨by rfl, by rintro w' ⟨s0, s1, s2, s3, s4⟩; go_simp; with_reducible rfl⟩) ?_; refine one_ (i := 5) (N := some 17) (mk 23 63) rfl rfl (one_of HT_.out (by kernel_rfl)) (by decide) (fun K hK => ?_); refine gs Try.func46 #[.agg #[.int .i64 a0_0, .slice A0_1 l0_1.length c0_1], .int .i64 (rd l1 x5_1)] ?_
          with_reducible refine (tollbarref4_Vertex.calls a0_0 _ _ l0_1 (rd l1 x5_1) true _ ?side1 ?side2 A6.out).mono ?_
          (case side1 => exact (Kd.C_below HR0_1.out HB.out)); (case side2 => exact HC0_1.out); rintro e w14 ⟨rfl, hb⟩; refine ⟨_, rfl, ?_⟩; replace BK596 := ak (blk_below BK596.out hb); replace HB := ak (below_step HB.out hb); (try clear hb); (try clear hb2); (try clear hk); (try clear hi); refine hK.out _ _ ⟨(blk_cell BK596.out 0).trans rfl, (blk_cell BK596.out 1).trans rfl, ((HB.out.cell (World.block_lt_of_cell? w _ hw597_0)).trans hw597_0), ((HB.out.cell (World.block_lt_of_cell? w _ hw599_0)).trans hw599_0), ((HB.out.cell (World.block_lt_of_cell? w _ hw600_0)).trans hw600_0)⟩ (fun hHeld => ?_); clear hK K; refine no ?_; refine pu 6 18 (mk 23 127) HT_ ?_; refine pu 7 19 (mk 23 255) HT_ ?_; refine pu 8 20 (mk 23 511) HT_ ?_; refine pu 9 21 (mk 23 1023) HT_ ?_; refine pu 10 22 (mk 23 2047) HT_ ?_; refine pu 11 23 (mk 23 4095) HT_ ?_; refine pu 12 24 (mk 23 8191) HT_ ?_; refine pu 13 25 (mk 23 16383) HT_ ?_; refine pu 15 27 (mk 23 49151) HT_ ?_; refine pu 16 28 (mk 23 114687) HT_ ?_; refine pu 17 29 (mk 23 245759) HT_ ?_; refine pu 18 30 (mk 23 507903) HT_ ?_; refine ta 14 26 (mk 23 524287) rfl rfl HT_ HW_ hHeld (Or.inl ⟨by rfl, by rintro w' ⟨s0, s1, s2, s3, s4⟩; go_simp; with_reducible rfl⟩) ?_; refine ta 19 31 (mk 23 1048575) rfl rfl HT_ HW_ hHeld (Or.inl ⟨by rfl, by rintro w' ⟨s0, s1, s2, s3, s4⟩; go_simp; with_reducible rfl⟩) ?_; refine pu 20 32 (mk 23 2097151) HT_ ?_; refine pu 21 33 (mk 23 4194303) HT_ ?_; refine pu 22 34 (mk 23 8388607) HT_ ?_; refine done_ (done_of HT_.out (by kernel_rfl)) ?_
          try go_wp2
          go_ret
          exact ⟨by first | rfl | (simp [errW_none, errW_some] <;> rfl) | (simp only [← hji9]; first | rfl | (simp [errW_none, errW_some] <;> rfl)) | (simp [*, errW_none, errW_some] <;> rfl), by repeat (first | (with_reducible first | exact HB.out | apply below_alloc | apply pw_below_drewN | apply below_drew1 | refine below_set ?_ GE596.out) | exact HB.out)⟩
         ·
          rw [if_neg c12] at H; have c12b0 : decide ((rd l1 x5_1) ≤ (rd l1 (ji9))) = false := decide_eq_false c12; clear c12; have H' := ak H; clear H
          try go_wp2
          replace BK596 := ak (blk_drew BK596.out); replace HB := ak (below_drew1 HB.out); have p597 : 0 ≤ (x5_1 : Int) := of_decide_eq_true (by first | (with_reducible assumption) | assumption); have q597 : x5_1 < (l1.length : Int) := of_decide_eq_true (by first | (with_reducible assumption) | assumption); obtain ⟨ad597, e597, hx597_0⟩ := Kd.at_int HR1.out x5_1 p597 q597; have hw597_0 := hx597_0; cases e597; replace hx597_0 := (HB.out.cell (World.block_lt_of_cell? w _ hx597_0)).trans hx597_0; replace p597 := eq_true p597; replace q597 := eq_true q597; have p599 : 0 ≤ (x5_1 : Int) := of_decide_eq_true (by first | (with_reducible assumption) | assumption); have q599 : x5_1 < (l1.length : Int) := of_decide_eq_true (by first | (with_reducible assumption) | assumption); obtain ⟨ad599, e599, hx599_0⟩ := Kd.at_int HR1.out x5_1 p599 q599; have hw599_0 := hx599_0
          obtain rfl : ad597 = ad599 := (by injection e599)
          replace hx599_0 := (HB.out.cell (World.block_lt_of_cell? w _ hx599_0)).trans hx599_0; replace p599 := eq_true p599; replace q599 := eq_true q599; have p600 : 0 ≤ ((ji9) : Int) := of_decide_eq_true (by first | (with_reducible assumption) | assumption); have q600 : (ji9) < (l1.length : Int) := of_decide_eq_true (by first | (with_reducible assumption) | assumption); obtain ⟨ad600, e600, hx600_0⟩ := Kd.at_int HR1.out (ji9) p600 q600; have hw600_0 := hx600_0
          obtain rfl : ad597 = ad600 := (by injection e600)
          replace hx600_0 := (HB.out.cell (World.block_lt_of_cell? w _ hx600_0)).trans hx600_0; replace p600 := eq_true p600; replace q600 := eq_true q600; refine start_ (n := 23) (S := fun w' => w'.cell? ⟨gb596, 0, none⟩ = some (.int .i64 a0_0) ∧ w'.cell? ⟨gb596, 1, none⟩ = some (.slice A0_1 l0_1.length c0_1) ∧ w'.cell? (ad597.add (x5_1).toNat) = some (.int .i64 (rd l1 x5_1)) ∧ w'.cell? (ad597.add (x5_1).toNat) = some (.int .i64 (rd l1 x5_1)) ∧ w'.cell? (ad597.add ((ji9)).toNat) = some (.int .i64 (rd l1 (ji9)))) (ds := []) (mk 23 0) (by kernel_rfl) rfl (by kernel_rfl) ⟨(blk_cell BK596.out 0).trans rfl, (blk_cell BK596.out 1).trans rfl, ((HB.out.cell (World.block_lt_of_cell? w _ hw597_0)).trans hw597_0), ((HB.out.cell (World.block_lt_of_cell? w _ hw599_0)).trans hw599_0), ((HB.out.cell (World.block_lt_of_cell? w _ hw600_0)).trans hw600_0)⟩ (fun hHeld => ?_); refine with_tabW tollbarref4_VertsMay.tab4 tollbarref4_VertsMay.bits4 (fun HT_ HW_ => ?_); generalize wr.drew = w15 at BK596 HB hx597_0 hx599_0 hx600_0 hHeld ⊢; refine pu 1 13 (mk 23 2) HT_ ?_; refine pu 2 14 (mk 23 6) HT_ ?_; refine pu 3 15 (mk 23 14) HT_ ?_; refine ta 0 12 (mk 23 15) rfl rfl HT_ HW_ hHeld (Or.inl ⟨by rfl, by rintro w' ⟨s0, s1, s2, s3, s4⟩; go_simp; with_reducible rfl⟩) ?_; refine ta 4 16 (mk 23 31) rfl rfl HT_ HW_ hHeld (Or.inl ⟨by rfl, by rintro w' ⟨s0, s1, s2, s3, s4⟩; go_simp; with_reducible rfl⟩) ?_; refine one_ (i := 5) (N := some 17) (mk 23 63) rfl rfl (one_of HT_.out (by kernel_rfl)) (by decide) (fun K hK => ?_); refine gs Try.func46 #[.agg #[.int .i64 a0_0, .slice A0_1 l0_1.length c0_1], .int .i64 (rd l1 x5_1)] ?_
          with_reducible refine (tollbarref4_Vertex.calls a0_0 _ _ l0_1 (rd l1 x5_1) true _ ?side1 ?side2 A6.out).mono ?_
          (case side1 => exact (Kd.C_below HR0_1.out HB.out)); (case side2 => exact HC0_1.out); rintro e w16 ⟨rfl, hb⟩; refine ⟨_, rfl, ?_⟩; replace BK596 := ak (blk_below BK596.out hb); replace HB := ak (below_step HB.out hb); (try clear hb); (try clear hb2); (try clear hk); (try clear hi); refine hK.out _ _ ⟨(blk_cell BK596.out 0).trans rfl, (blk_cell BK596.out 1).trans rfl, ((HB.out.cell (World.block_lt_of_cell? w _ hw597_0)).trans hw597_0), ((HB.out.cell (World.block_lt_of_cell? w _ hw599_0)).trans hw599_0), ((HB.out.cell (World.block_lt_of_cell? w _ hw600_0)).trans hw600_0)⟩ (fun hHeld => ?_); clear hK K; refine no ?_; refine pu 6 18 (mk 23 127) HT_ ?_; refine pu 7 19 (mk 23 255) HT_ ?_; refine pu 8 20 (mk 23 511) HT_ ?_; refine pu 9 21 (mk 23 1023) HT_ ?_; refine pu 10 22 (mk 23 2047) HT_ ?_; refine pu 11 23 (mk 23 4095) HT_ ?_; refine pu 12 24 (mk 23 8191) HT_ ?_; refine pu 13 25 (mk 23 16383) HT_ ?_; refine pu 15 27 (mk 23 49151) HT_ ?_; refine pu 16 28 (mk 23 114687) HT_ ?_; refine pu 17 29 (mk 23 245759) HT_ ?_; refine pu 18 30 (mk 23 507903) HT_ ?_; refine ta 14 26 (mk 23 524287) rfl rfl HT_ HW_ hHeld (Or.inl ⟨by rfl, by rintro w' ⟨s0, s1, s2, s3, s4⟩; go_simp; with_reducible rfl⟩) ?_; refine ta 19 31 (mk 23 1048575) rfl rfl HT_ HW_ hHeld (Or.inl ⟨by rfl, by rintro w' ⟨s0, s1, s2, s3, s4⟩; go_simp; with_reducible rfl⟩) ?_; refine pu 20 32 (mk 23 2097151) HT_ ?_; refine pu 21 33 (mk 23 4194303) HT_ ?_; refine pu 22 34 (mk 23 8388607) HT_ ?_; refine done_ (done_of HT_.out (by kernel_rfl)) ?_
          try go_wp2
          go_roundg k1
          case measure => have := HK1.out; omega
          case rel => exact ⟨(wrap64 (x5_1 + 1)), (by first | rfl | (simp; done) | (simp [*]; done)), H', ⟨by have := HK1.out; omega⟩, ⟨BK596.out⟩, ⟨HB.out⟩⟩
        ·
         rw [if_neg c11] at H; exact absurd H (by simp)
       ·
        rw [if_neg c10] at H; exact absurd H (by simp)
      ·
       rw [if_neg c8] at H; have c8b0 : decide (0 < x5_1) = false := decide_eq_false c8; clear c8; have H' := ak H; clear H
       try go_wp2
       replace BK596 := ak (blk_drew BK596.out); replace HB := ak (below_drew1 HB.out); have p597 : 0 ≤ (x5_1 : Int) := of_decide_eq_true (by first | (with_reducible assumption) | assumption); have q597 : x5_1 < (l1.length : Int) := of_decide_eq_true (by first | (with_reducible assumption) | assumption); obtain ⟨ad597, e597, hx597_0⟩ := Kd.at_int HR1.out x5_1 p597 q597; have hw597_0 := hx597_0; cases e597; replace hx597_0 := (HB.out.cell (World.block_lt_of_cell? w _ hx597_0)).trans hx597_0; replace p597 := eq_true p597; replace q597 := eq_true q597; refine start_ (n := 23) (S := fun w' => w'.cell? ⟨gb596, 0, none⟩ = some (.int .i64 a0_0) ∧ w'.cell? ⟨gb596, 1, none⟩ = some (.slice A0_1 l0_1.length c0_1) ∧ w'.cell? (ad597.add (x5_1).toNat) = some (.int .i64 (rd l1 x5_1))) (ds := []) (mk 23 0) (by kernel_rfl) rfl (by kernel_rfl) ⟨(blk_cell BK596.out 0).trans rfl, (blk_cell BK596.out 1).trans rfl, ((HB.out.cell (World.block_lt_of_cell? w _ hw597_0)).trans hw597_0)⟩ (fun hHeld => ?_); refine with_tabW tollbarref4_VertsMay.tab4 tollbarref4_VertsMay.bits4 (fun HT_ HW_ => ?_); generalize wr.drew = w17 at BK596 HB hx597_0 hHeld ⊢; refine pu 1 13 (mk 23 2) HT_ ?_; refine pu 2 14 (mk 23 6) HT_ ?_; refine pu 3 15 (mk 23 14) HT_ ?_; refine ta 0 12 (mk 23 15) rfl rfl HT_ HW_ hHeld (Or.inl ⟨by rfl, by rintro w' ⟨s0, s1, s2⟩; go_simp; with_reducible rfl⟩) ?_; refine ta 4 16 (mk 23 31) rfl rfl HT_ HW_ hHeld (Or.inl ⟨by rfl, by rintro w' ⟨s0, s1, s2⟩; go_simp; with_reducible rfl⟩) ?_; refine one_ (i := 5) (N := some 17) (mk 23 63) rfl rfl (one_of HT_.out (by kernel_rfl)) (by decide) (fun K hK => ?_); refine gs Try.func46 #[.agg #[.int .i64 a0_0, .slice A0_1 l0_1.length c0_1], .int .i64 (rd l1 x5_1)] ?_
       with_reducible refine (tollbarref4_Vertex.calls a0_0 _ _ l0_1 (rd l1 x5_1) true _ ?side1 ?side2 A6.out).mono ?_
       (case side1 => exact (Kd.C_below HR0_1.out HB.out)); (case side2 => exact HC0_1.out); rintro e w18 ⟨rfl, hb⟩; refine ⟨_, rfl, ?_⟩; replace BK596 := ak (blk_below BK596.out hb); replace HB := ak (below_step HB.out hb); (try clear hb); (try clear hb2); (try clear hk); (try clear hi); refine hK.out _ _ ⟨(blk_cell BK596.out 0).trans rfl, (blk_cell BK596.out 1).trans rfl, ((HB.out.cell (World.block_lt_of_cell? w _ hw597_0)).trans hw597_0)⟩ (fun hHeld => ?_); clear hK K; refine no ?_; refine pu 6 18 (mk 23 127) HT_ ?_; refine pu 7 19 (mk 23 255) HT_ ?_; refine pu 8 20 (mk 23 511) HT_ ?_; refine pu 9 21 (mk 23 1023) HT_ ?_; refine pu 10 22 (mk 23 2047) HT_ ?_; refine po 11 23 (mk 23 4095) HT_ ?_; refine po 12 24 (mk 23 8191) HT_ ?_; refine po 13 25 (mk 23 16383) HT_ ?_; refine po 14 26 (mk 23 32767) HT_ ?_; refine po 15 27 (mk 23 65535) HT_ ?_; refine po 16 28 (mk 23 131071) HT_ ?_; refine po 17 29 (mk 23 262143) HT_ ?_; refine po 18 30 (mk 23 524287) HT_ ?_; refine po 19 31 (mk 23 1048575) HT_ ?_; refine po 20 32 (mk 23 2097151) HT_ ?_; refine pu 21 33 (mk 23 4194303) HT_ ?_; refine pu 22 34 (mk 23 8388607) HT_ ?_; refine done_ (done_of HT_.out (by kernel_rfl)) ?_
       try go_wp2
       go_roundg k1
       case measure => have := HK1.out; omega
       case rel => exact ⟨(wrap64 (x5_1 + 1)), (by first | rfl | (simp; done) | (simp [*]; done)), H', ⟨by have := HK1.out; omega⟩, ⟨BK596.out⟩, ⟨HB.out⟩⟩
     ·
      replace c7 := Bool.eq_false_iff.mpr c7; subst c7
      have H1 : (some false) = some r := by rw [if_neg (show ¬ (false = true) by decide)] at H; exact H
      clear H; have H := H1; clear H1; obtain rfl := Option.some.inj H
      try go_wp2
      replace BK596 := ak (blk_drew BK596.out); replace HB := ak (below_drew1 HB.out); have p597 : 0 ≤ (x5_1 : Int) := of_decide_eq_true (by first | (with_reducible assumption) | assumption); have q597 : x5_1 < (l1.length : Int) := of_decide_eq_true (by first | (with_reducible assumption) | assumption); obtain ⟨ad597, e597, hx597_0⟩ := Kd.at_int HR1.out x5_1 p597 q597; have hw597_0 := hx597_0; cases e597; replace hx597_0 := (HB.out.cell (World.block_lt_of_cell? w _ hx597_0)).trans hx597_0; replace p597 := eq_true p597; replace q597 := eq_true q597; refine start_ (n := 23) (S := fun w' => w'.cell? ⟨gb596, 0, none⟩ = some (.int .i64 a0_0) ∧ w'.cell? ⟨gb596, 1, none⟩ = some (.slice A0_1 l0_1.length c0_1) ∧ w'.cell? (ad597.add (x5_1).toNat) = some (.int .i64 (rd l1 x5_1))) (ds := []) (mk 23 0) (by kernel_rfl) rfl (by kernel_rfl) ⟨(blk_cell BK596.out 0).trans rfl, (blk_cell BK596.out 1).trans rfl, ((HB.out.cell (World.block_lt_of_cell? w _ hw597_0)).trans hw597_0)⟩ (fun hHeld => ?_); refine with_tabW tollbarref4_VertsMay.tab4 tollbarref4_VertsMay.bits4 (fun HT_ HW_ => ?_); generalize wr.drew = w19 at BK596 HB hx597_0 hHeld ⊢; refine pu 1 13 (mk 23 2) HT_ ?_; refine pu 2 14 (mk 23 6) HT_ ?_; refine pu 3 15 (mk 23 14) HT_ ?_; refine ta 0 12 (mk 23 15) rfl rfl HT_ HW_ hHeld (Or.inl ⟨by rfl, by rintro w' ⟨s0, s1, s2⟩; go_simp; with_reducible rfl⟩) ?_; refine ta 4 16 (mk 23 31) rfl rfl HT_ HW_ hHeld (Or.inl ⟨by rfl, by rintro w' ⟨s0, s1, s2⟩; go_simp; with_reducible rfl⟩) ?_; refine one_ (i := 5) (N := some 17) (mk 23 63) rfl rfl (one_of HT_.out (by kernel_rfl)) (by decide) (fun K hK => ?_); refine gs Try.func46 #[.agg #[.int .i64 a0_0, .slice A0_1 l0_1.length c0_1], .int .i64 (rd l1 x5_1)] ?_
      with_reducible refine (tollbarref4_Vertex.calls a0_0 _ _ l0_1 (rd l1 x5_1) false _ ?side1 ?side2 A6.out).mono ?_
      (case side1 => exact (Kd.C_below HR0_1.out HB.out)); (case side2 => exact HC0_1.out); rintro e w20 ⟨rfl, hb⟩; refine ⟨_, rfl, ?_⟩; replace BK596 := ak (blk_below BK596.out hb); replace HB := ak (below_step HB.out hb); (try clear hb); (try clear hb2); (try clear hk); (try clear hi); refine hK.out _ _ ⟨(blk_cell BK596.out 0).trans rfl, (blk_cell BK596.out 1).trans rfl, ((HB.out.cell (World.block_lt_of_cell? w _ hw597_0)).trans hw597_0)⟩ (fun hHeld => ?_); clear hK K; refine no ?_; refine pu 6 18 (mk 23 127) HT_ ?_; refine pu 7 19 (mk 23 255) HT_ ?_; refine po 8 20 (mk 23 511) HT_ ?_; refine po 9 21 (mk 23 1023) HT_ ?_; refine po 10 22 (mk 23 2047) HT_ ?_; refine po 11 23 (mk 23 4095) HT_ ?_; refine po 12 24 (mk 23 8191) HT_ ?_; refine po 13 25 (mk 23 16383) HT_ ?_; refine po 14 26 (mk 23 32767) HT_ ?_; refine po 15 27 (mk 23 65535) HT_ ?_; refine po 16 28 (mk 23 131071) HT_ ?_; refine po 17 29 (mk 23 262143) HT_ ?_; refine po 18 30 (mk 23 524287) HT_ ?_; refine po 19 31 (mk 23 1048575) HT_ ?_; refine po 20 32 (mk 23 2097151) HT_ ?_; refine po 21 33 (mk 23 4194303) HT_ ?_; refine pu 22 34 (mk 23 8388607) HT_ ?_; refine done_ (done_of HT_.out (by kernel_rfl)) ?_
      try go_wp2
      go_ret
      exact ⟨by first | rfl | (simp [errW_none, errW_some] <;> rfl) | (simp [*, errW_none, errW_some] <;> rfl), by repeat (first | (with_reducible first | exact HB.out | apply below_alloc | apply pw_below_drewN | apply below_drew1 | refine below_set ?_ GE596.out) | exact HB.out)⟩
    ·
     rw [if_neg c5] at H; exact absurd H (by simp)
   ·
    rw [if_neg c4] at H; have c4b0 : decide (x5_1 < (l1.length : Int)) = false := decide_eq_false c4; clear c4; obtain rfl := Option.some.inj H
    go_wp2
    go_ret
    exact ⟨by first | rfl | (simp [errW_none, errW_some] <;> rfl) | (simp [*, errW_none, errW_some] <;> rfl), by repeat (first | (with_reducible first | exact HB.out | apply below_alloc | apply pw_below_drewN | apply below_drew1 | refine below_set ?_ GE596.out) | exact HB.out)⟩
/-! ### tollbarref4_Among: function 57 -/
def tollbarref4_Among.l0 : Nat → List Int → Int → Int → Option (Bool)
  | 0, _, _, _ => none
  | k + 1, x0, x1, x5 => if x5 < (x0.length : Int) then (if 0 ≤ x5 then (if (rd x0 x5) = x1 then (some true) else (tollbarref4_Among.l0 k x0 x1 (wrap64 (x5 + 1)))) else (none)) else (some false)
def tollbarref4_Among.f (k : Nat) (l0 : List Int) (a1 : Int) : Option (Bool) := tollbarref4_Among.l0 k l0 a1 0
set_option maxHeartbeats 8000000 in
set_option maxRecDepth 100000 in
theorem tollbarref4_Among.calls (k : Nat) (A0 : Option Addr) (c0 : Nat) (l0 : List Int) (a1 : Int) (r : Bool) (w : World) (hr0 : Kd.C (Kd.int .i64) w A0 l0.length l0) (hc0 : l0.length ≤ c0) (h : tollbarref4_Among.f k l0 a1 = some r) :
    Calls Try.prog 57 #[.slice A0 l0.length c0, .int .i64 a1] w fun e w' => e = .returned (.bool r) ∧ Drawn0 w w' := by
  have HR0 := ak hr0; have HC0 := ak hc0; clear hr0 hc0; have H : (tollbarref4_Among.l0 k l0 a1 0) = some r := h; clear h; have H' := ak H; clear H
  go_enter Try.func57, Try.ntmps57
  go_wp2
  go_loopg [5] k (fun kq v5 w' => ∃ (x5_1 : Int), v5 = .int .i64 x5_1 ∧ Aside0 (tollbarref4_Among.l0 kq l0 a1 x5_1 = some r) ∧ Aside0 (kq ≤ k) ∧ Drawn0 w w')
  case atStart => exact ⟨(0), (by first | rfl | (simp; done) | (simp [*]; done)), H', ⟨Nat.le_refl _⟩, by repeat (first | exact Drawn0.refl _ | apply Drawn0.step)⟩
  case round =>
    clear H'
    try clear p2
    obtain ⟨x5_1, rfl, HA, HK1, ⟨m1, rfl⟩⟩ := hrel; cases gk with
    | zero => exact absurd HA.out (by simp [tollbarref4_Among.l0])
    | succ k1 =>
      have H := HA.out; clear HA; simp only [tollbarref4_Among.l0] at H
      by_cases c3 : x5_1 < (l0.length : Int)
      · rw [if_pos c3] at H
        have c3b0 : decide (x5_1 < (l0.length : Int)) = true := decide_eq_true c3; clear c3
        by_cases c4 : 0 ≤ x5_1
        · rw [if_pos c4] at H
          have c4b0 : decide (0 ≤ x5_1) = true := decide_eq_true c4; clear c4
          by_cases c5 : (rd l0 x5_1) = a1
          · rw [if_pos c5] at H
            have c5b0 : ((rd l0 x5_1) == a1) = true := beq_iff_eq.mpr c5; have c5b1 : ((rd l0 x5_1) != a1) = false := bne_eq_false_iff_eq.mpr c5; clear c5; obtain rfl := Option.some.inj H; have p601 : 0 ≤ (x5_1 : Int) := of_decide_eq_true (by first | (with_reducible assumption) | assumption); have q601 : x5_1 < (l0.length : Int) := of_decide_eq_true (by first | (with_reducible assumption) | assumption); obtain ⟨ad601, e601, hx601_0⟩ := Kd.at_int HR0.out x5_1 p601 q601; cases e601; replace p601 := eq_true p601; replace q601 := eq_true q601
            go_wp2
            go_ret
            exact ⟨by first | rfl | (simp; done) | (simp [*]; done), by repeat (first | exact Drawn0.refl _ | apply Drawn0.step)⟩
          · rw [if_neg c5] at H
            have c5b0 : ((rd l0 x5_1) == a1) = false := beq_eq_false_iff_ne.mpr c5; have c5b1 : ((rd l0 x5_1) != a1) = true := bne_iff_ne.mpr c5; have H' := ak H; clear H; have p601 : 0 ≤ (x5_1 : Int) := of_decide_eq_true (by first | (with_reducible assumption) | assumption); have q601 : x5_1 < (l0.length : Int) := of_decide_eq_true (by first | (with_reducible assumption) | assumption); obtain ⟨ad601, e601, hx601_0⟩ := Kd.at_int HR0.out x5_1 p601 q601; cases e601; replace p601 := eq_true p601; replace q601 := eq_true q601
            go_wp2
            go_roundg k1
            case measure => have := HK1.out; omega
            case rel => exact ⟨(wrap64 (x5_1 + 1)), (by first | rfl | (simp; done) | (simp [*]; done)), H', ⟨by have := HK1.out; omega⟩, by repeat (first | exact Drawn0.refl _ | apply Drawn0.step)⟩
        · rw [if_neg c4] at H
          exact absurd H (by simp)
      · rw [if_neg c3] at H
        have c3b0 : decide (x5_1 < (l0.length : Int)) = false := decide_eq_false c3; clear c3; obtain rfl := Option.some.inj H
        go_wp2
        go_ret
        exact ⟨by first | rfl | (simp; done) | (simp [*]; done), by repeat (first | exact Drawn0.refl _ | apply Drawn0.step)⟩
/-! ### tollbarref4_Leaving: function 58 -/
mutual
def tollbarref4_Leaving.j0 : Nat → List Int → Bool → Int → List (S53) → Option (List Int × Int)
 | 0, _, _, _, _ => none
 | k + 1, x1, x16, xkb, xka => if x16 = true then (some (([] : List Int), 800)) else (tollbarref4_Leaving.l0 k x1 ([] : List Int) 0 xkb xka)
def tollbarref4_Leaving.l0 : Nat → List Int → List Int → Int → Int → List (S53) → Option (List Int × Int)
 | 0, _, _, _, _, _ => none
 | k + 1, x1, x6, x7, xkb, xka => if x7 < (xka.length : Int) then (if 0 ≤ x7 then ((tollbarref4_Among.f k x1 ((rd_T53 xka x7).f0)).bind fun t606 => (if t606 = true then ((tollbarref4_Among.f k x1 ((rd_T53 xka x7).f1)).bind fun t608 => (if t608 = true then (tollbarref4_Leaving.l0 k x1 x6 (wrap64 (x7 + 1)) xkb xka) else (if x6.length < 17592186044416 then (tollbarref4_Leaving.l0 k x1 (x6 ++ [x7]) (wrap64 (x7 + 1)) xkb xka) else (none)))) else (tollbarref4_Leaving.l0 k x1 x6 (wrap64 (x7 + 1)) xkb xka))) else (none)) else (some (x6, 0))
end
def tollbarref4_Leaving.f (k : Nat) (a0_0 : Int) (l0_1 : List (S53)) (l1 : List Int) : Option (List Int × Int) := (tollbarref4_GraphMay.f k a0_0 l0_1).bind fun t603 => (if t603 = true then ((tollbarref4_VertsMay.f k a0_0 l0_1 l1).bind fun t604 => (tollbarref4_Leaving.j0 k l1 (!t604) a0_0 l0_1)) else (tollbarref4_Leaving.j0 k l1 true a0_0 l0_1))
set_option maxHeartbeats 8000000 in
set_option maxRecDepth 100000 in
theorem tollbarref4_Leaving.calls (k : Nat) (a0_0 : Int) (A0_1 : Option Addr) (c0_1 : Nat) (l0_1 : List (S53)) (A1 : Option Addr) (c1 : Nat) (l1 : List Int) (r1 : List Int) (r2 : Int) (w : World) (hr0_1 : Kd.C k53 w A0_1 l0_1.length l0_1) (hc0_1 : l0_1.length ≤ c0_1) (hr1 : Kd.C (Kd.int .i64) w A1 l1.length l1) (hc1 : l1.length ≤ c1) (h : tollbarref4_Leaving.f k a0_0 l0_1 l1 = some (r1, r2)) :
  Calls Try.prog 58 #[.agg #[.int .i64 a0_0, .slice A0_1 l0_1.length c0_1], .slice A1 l1.length c1] w fun e w' => ∃ v0_ : Value, e = .returned (.tuple #[v0_, .int .i64 r2]) ∧ Kd.R (Kd.int .i64) 3 w' w.heap.size (fun _ => True) v0_ r1 ∧ Below w.heap.size w w' := by
 have hu24 := Try.underlying24; have HR0_1 := ak hr0_1; have HC0_1 := ak hc0_1; clear hr0_1 hc0_1; have HR1 := ak hr1; have HC1 := ak hc1; clear hr1 hc1; have HB := ak (Below.refl w.heap.size w); have H : ((tollbarref4_GraphMay.f k a0_0 l0_1).bind fun t603 => (if t603 = true then ((tollbarref4_VertsMay.f k a0_0 l0_1 l1).bind fun t604 => (tollbarref4_Leaving.j0 k l1 (!t604) a0_0 l0_1)) else (tollbarref4_Leaving.j0 k l1 true a0_0 l0_1))) = some (r1, r2) := h; clear h; have HC3 := ak H; clear H
 go_enter Try.func58, Try.ntmps58
 go_upto_region 1 with (first | ((with_reducible refine gate_dst (N := 2) rfl ?_); refine box_event ?hg (N := 2) ?hd (cs := #[.int .i64 a0_0, .slice A0_1 l0_1.length c0_1]) (t := 24) ?hr ?_; (case hd => rfl); (case hg => rfl); (case hr => first | (go_simp; done) | (go_simp; rfl)); intro gb602 hg w4 hbox hb; have BK602 := ak (hbox); have GW602 := ak ((by rw [hg]; exact (below_size HB.out) : w.heap.size ≤ gb602)); have GE602 := ak ((by rw [hg]; exact (below_size HB.out) : w.heap.size ≤ gb602)); replace HB := ak (below_step HB.out hb); clear hb hbox hg))
 (try simp only [Act.put, List.setIfInBounds_toArray, List.set_cons_zero, List.set_cons_succ])
 go_cut [16] (fun v16 wc => ∃ (kq : Nat) (x16_2 : Bool), v16 = .bool x16_2 ∧ Aside0 (tollbarref4_Leaving.j0 kq l1 x16_2 a0_0 l0_1 = some (r1, r2)) ∧ Aside0 (kq ≤ k) ∧ Aside0 (wc.heap[gb602]? = some (.cells #[.int .i64 a0_0, (.slice A0_1 l0_1.length c0_1)] 24 (0, 0))) ∧ Aside0 (Below w.heap.size w wc))
 case first =>
  have H := HC3.out; clear HC3; replace H := Option.bind_eq_some_iff.mp H; obtain ⟨t603, A50, H⟩ := H; replace H : (if t603 = true then ((tollbarref4_VertsMay.f k a0_0 l0_1 l1).bind fun t604 => (tollbarref4_Leaving.j0 k l1 (!t604) a0_0 l0_1)) else (tollbarref4_Leaving.j0 k l1 true a0_0 l0_1)) = some (r1, r2) := H; have A5 := ak A50; clear A50
  by_cases c6 : t603 = true
  ·
   subst c6
   have H1 : ((tollbarref4_VertsMay.f k a0_0 l0_1 l1).bind fun t604 => (tollbarref4_Leaving.j0 k l1 (!t604) a0_0 l0_1)) = some (r1, r2) := by rw [if_pos rfl] at H; exact H
   clear H; have H := H1; clear H1; replace H := Option.bind_eq_some_iff.mp H; obtain ⟨t604, A70, H⟩ := H; replace H : (tollbarref4_Leaving.j0 k l1 (!t604) a0_0 l0_1) = some (r1, r2) := H; have A7 := ak A70; clear A70; have H' := ak H; clear H; have hcz8_0 : w4.cell? ⟨gb602, 0, none⟩ = some (.int .i64 a0_0) := (blk_cell BK602.out 0).trans rfl; have hcz8_1 : w4.cell? ⟨gb602, 1, none⟩ = some (.slice A0_1 l0_1.length c0_1) := (blk_cell BK602.out 1).trans rfl; have hfz8_0 := blk_frozen BK602.out 0; have hfz8_1 := blk_frozen BK602.out 1
   go_wp2_with (first | ((with_reducible refine gate_callee (f := 51) rfl ?_); refine gl 9 Try.func51 #[.agg #[.int .i64 a0_0, .slice A0_1 l0_1.length c0_1]] ?_; (with_reducible refine (tollbarref4_GraphMay.calls k a0_0 _ _ l0_1 true _ ?side1 ?side2 A5.out).mono ?_); (case side1 => exact (Kd.C_below HR0_1.out HB.out)); (case side2 => exact HC0_1.out); rintro e w9 ⟨rfl, hb⟩; refine ⟨_, rfl, ?_⟩; replace BK602 := ak (blk_below BK602.out hb); replace HB := ak (below_step HB.out hb); (try clear hb); (try clear hb2); (try clear hk); (try clear hi); have hcz10_0 : w9.cell? ⟨gb602, 0, none⟩ = some (.int .i64 a0_0) := (blk_cell BK602.out 0).trans rfl; have hcz10_1 : w9.cell? ⟨gb602, 1, none⟩ = some (.slice A0_1 l0_1.length c0_1) := (blk_cell BK602.out 1).trans rfl; have hfz10_0 := blk_frozen BK602.out 0; have hfz10_1 := blk_frozen BK602.out 1) | (go_at_call 56; (with_reducible refine (tollbarref4_VertsMay.calls k a0_0 _ _ l0_1 _ _ l1 t604 _ ?side1 ?side2 ?side3 ?side4 A7.out).mono ?_); (case side1 => exact (Kd.C_below HR0_1.out HB.out)); (case side2 => exact HC0_1.out); (case side3 => exact (Kd.C_below HR1.out HB.out)); (case side4 => exact HC1.out); rintro e w11 ⟨rfl, hb⟩; have n0_ := ak (blk_below BK602.out hb); have n1_ := ak (below_step HB.out hb); clear BK602; clear HB; have BK602 := n0_; have HB := n1_; clear n0_ n1_; (try clear hb); (try clear hb2); (try clear hk); (try clear hi)))
   go_meet
   case rel => exact ⟨_, (!t604), (by first | rfl | (simp; done) | (simp [*]; done)), H', ⟨by first | omega | exact Nat.le_refl _⟩, ⟨BK602.out⟩, ⟨HB.out⟩⟩
  ·
   replace c6 := Bool.eq_false_iff.mpr c6; subst c6
   have H1 : (tollbarref4_Leaving.j0 k l1 true a0_0 l0_1) = some (r1, r2) := by rw [if_neg (show ¬ (false = true) by decide)] at H; exact H
   clear H; have H := H1; clear H1; have H' := ak H; clear H; have hcz12_0 : w4.cell? ⟨gb602, 0, none⟩ = some (.int .i64 a0_0) := (blk_cell BK602.out 0).trans rfl; have hcz12_1 : w4.cell? ⟨gb602, 1, none⟩ = some (.slice A0_1 l0_1.length c0_1) := (blk_cell BK602.out 1).trans rfl; have hfz12_0 := blk_frozen BK602.out 0; have hfz12_1 := blk_frozen BK602.out 1
   go_wp2_with (first | ((with_reducible refine gate_callee (f := 51) rfl ?_); refine gl 9 Try.func51 #[.agg #[.int .i64 a0_0, .slice A0_1 l0_1.length c0_1]] ?_; (with_reducible refine (tollbarref4_GraphMay.calls k a0_0 _ _ l0_1 false _ ?side1 ?side2 A5.out).mono ?_); (case side1 => exact (Kd.C_below HR0_1.out HB.out)); (case side2 => exact HC0_1.out); rintro e w13 ⟨rfl, hb⟩; refine ⟨_, rfl, ?_⟩; replace BK602 := ak (blk_below BK602.out hb); replace HB := ak (below_step HB.out hb); (try clear hb); (try clear hb2); (try clear hk); (try clear hi)))
   go_meet
   case rel => exact ⟨_, (true), (by first | rfl | (simp; done) | (simp [*]; done)), H', ⟨by first | omega | exact Nat.le_refl _⟩, ⟨BK602.out⟩, ⟨HB.out⟩⟩
 case rest =>
  clear HC3
  repeat (first | clear c1 | clear p2 | clear c5 | clear c6 | clear hcz10_0 | clear hcz10_1 | clear hcz12_0 | clear hcz12_1 | clear hcz8_0 | clear hcz8_1 | clear hfz10_0 | clear hfz10_1 | clear hfz12_0 | clear hfz12_1 | clear hfz8_0 | clear hfz8_1)
  obtain ⟨kq, x16_2, rfl, HA, HJ2, BK602, HB⟩ := hcut; cases kq with
  | zero => exact absurd HA.out (by simp [tollbarref4_Leaving.j0])
  | succ kj2 =>
   have H := HA.out; clear HA; simp only [tollbarref4_Leaving.j0] at H
   by_cases c14 : x16_2 = true
   ·
    subst c14
    have H1 : (some (([] : List Int), 800)) = some (r1, r2) := by rw [if_pos rfl] at H; exact H
    clear H; have H := H1; clear H1; simp only [Option.some.injEq, Prod.mk.injEq] at H; obtain ⟨rfl, rfl⟩ := H
    go_wp2
    go_ret2
    exact ⟨_, by first | rfl | (simp [errW_none, errW_some] <;> rfl) | (simp [*, errW_none, errW_some] <;> rfl), by first | exact Kd.R_nil _ _ _ _ _ | exact Kd.N_nil _ _ _ _ _ | exact Kd.V_nil _ _ _ _ _ | exact Kd.Q_nil _ _ _ _ _ | exact Kd.S_nil _ _ _ _ _, by repeat (first | (with_reducible first | exact HB.out | apply below_alloc | apply pw_below_drewN | apply below_drew1 | refine below_set ?_ GE602.out) | exact HB.out)⟩
   ·
    replace c14 := Bool.eq_false_iff.mpr c14; subst c14
    have H1 : (tollbarref4_Leaving.l0 kj2 l1 ([] : List Int) 0 a0_0 l0_1) = some (r1, r2) := by rw [if_neg (show ¬ (false = true) by decide)] at H; exact H
    clear H; have H := H1; clear H1; have H' := ak H; clear H
    go_wp2
    go_loopg [6, 7] kj2 (fun kq v6 v7 w' => ∃ (x6_2 : List Int) (x7_2 : Int), v7 = .int .i64 x7_2 ∧ Aside0 (tollbarref4_Leaving.l0 kq l1 x6_2 x7_2 a0_0 l0_1 = some (r1, r2)) ∧ Aside0 (kq ≤ kj2) ∧ Aside0 (Kd.R (Kd.int .i64) 3 w' w.heap.size (fun _ => True) v6 x6_2) ∧ Aside0 (w'.heap[gb602]? = some (.cells #[.int .i64 a0_0, (.slice A0_1 l0_1.length c0_1)] 24 (0, 0))) ∧ Aside0 (Below w.heap.size w w'))
    case atStart => exact ⟨(([] : List Int)), (0), (by first | rfl | (simp; done) | (simp [*]; done)), H', ⟨Nat.le_refl _⟩, ⟨by first | exact Kd.R_nil _ _ _ _ _ | exact Kd.N_nil _ _ _ _ _ | exact Kd.V_nil _ _ _ _ _ | exact Kd.Q_nil _ _ _ _ _ | exact Kd.S_nil _ _ _ _ _⟩, ⟨BK602.out⟩, ⟨HB.out⟩⟩
    case round =>
     clear H'
     repeat (first | clear c1 | clear p2 | clear c5 | clear c6 | clear c14 | clear hcz10_0 | clear hcz10_1 | clear hcz12_0 | clear hcz12_1 | clear hcz8_0 | clear hcz8_1 | clear hfz10_0 | clear hfz10_1 | clear hfz12_0 | clear hfz12_1 | clear hfz8_0 | clear hfz8_1)
     obtain ⟨x6_2, x7_2, rfl, HA, HK2, HO_6, BK602, HB⟩ := hrel; cases gk with
     | zero => exact absurd HA.out (by simp [tollbarref4_Leaving.l0])
     | succ k2 =>
      have H := HA.out; clear HA; simp only [tollbarref4_Leaving.l0] at H
      by_cases c15 : x7_2 < (l0_1.length : Int)
      ·
       rw [if_pos c15] at H; have c15b0 : decide (x7_2 < (l0_1.length : Int)) = true := decide_eq_true c15; clear c15
       by_cases c16 : 0 ≤ x7_2
       ·
        rw [if_pos c16] at H; have c16b0 : decide (0 ≤ x7_2) = true := decide_eq_true c16; clear c16; replace H := Option.bind_eq_some_iff.mp H; obtain ⟨t606, A170, H⟩ := H; replace H : (if t606 = true then ((tollbarref4_Among.f k2 l1 ((rd_T53 l0_1 x7_2).f1)).bind fun t608 => (if t608 = true then (tollbarref4_Leaving.l0 k2 l1 x6_2 (wrap64 (x7_2 + 1)) a0_0 l0_1) else (if x6_2.length < 17592186044416 then (tollbarref4_Leaving.l0 k2 l1 (x6_2 ++ [x7_2]) (wrap64 (x7_2 + 1)) a0_0 l0_1) else (none)))) else (tollbarref4_Leaving.l0 k2 l1 x6_2 (wrap64 (x7_2 + 1)) a0_0 l0_1)) = some (r1, r2) := H; have A17 := ak A170; clear A170
        by_cases c18 : t606 = true
        ·
         subst c18
         have H1 : ((tollbarref4_Among.f k2 l1 ((rd_T53 l0_1 x7_2).f1)).bind fun t608 => (if t608 = true then (tollbarref4_Leaving.l0 k2 l1 x6_2 (wrap64 (x7_2 + 1)) a0_0 l0_1) else (if x6_2.length < 17592186044416 then (tollbarref4_Leaving.l0 k2 l1 (x6_2 ++ [x7_2]) (wrap64 (x7_2 + 1)) a0_0 l0_1) else (none)))) = some (r1, r2) := by rw [if_pos rfl] at H; exact H
         clear H; have H := H1; clear H1; replace H := Option.bind_eq_some_iff.mp H; obtain ⟨t608, A190, H⟩ := H; replace H : (if t608 = true then (tollbarref4_Leaving.l0 k2 l1 x6_2 (wrap64 (x7_2 + 1)) a0_0 l0_1) else (if x6_2.length < 17592186044416 then (tollbarref4_Leaving.l0 k2 l1 (x6_2 ++ [x7_2]) (wrap64 (x7_2 + 1)) a0_0 l0_1) else (none))) = some (r1, r2) := H; have A19 := ak A190; clear A190
         by_cases c20 : t608 = true
         ·
          subst c20
          have H1 : (tollbarref4_Leaving.l0 k2 l1 x6_2 (wrap64 (x7_2 + 1)) a0_0 l0_1) = some (r1, r2) := by rw [if_pos rfl] at H; exact H
          clear H; have H := H1; clear H1; have H' := ak H; clear H; have hcz21_0 : wr.cell? ⟨gb602, 0, none⟩ = some (.int .i64 a0_0) := (blk_cell BK602.out 0).trans rfl; have hcz21_1 : wr.cell? ⟨gb602, 1, none⟩ = some (.slice A0_1 l0_1.length c0_1) := (blk_cell BK602.out 1).trans rfl; have hfz21_0 := blk_frozen BK602.out 0; have hfz21_1 := blk_frozen BK602.out 1; have p605 : 0 ≤ (x7_2 : Int) := of_decide_eq_true (by first | (with_reducible assumption) | assumption); have q605 : x7_2 < (l0_1.length : Int) := of_decide_eq_true (by first | (with_reducible assumption) | assumption); obtain ⟨ad605, e605, hx605_0, hx605_1, hx605_2⟩ := at_T53 HR0_1.out x7_2 p605 q605; cases e605; replace hx605_0 := (HB.out.cell (World.block_lt_of_cell? w _ hx605_0)).trans hx605_0; replace hx605_1 := (HB.out.cell (World.block_lt_of_cell? w _ hx605_1)).trans hx605_1; replace hx605_2 := (HB.out.cell (World.block_lt_of_cell? w _ hx605_2)).trans hx605_2; replace p605 := eq_true p605; replace q605 := eq_true q605
          go_wp2_with (first | ((with_reducible refine gate_callee (f := 57) rfl ?_); refine gl 31 Try.func57 #[.slice A1 l1.length c1, .int .i64 ((rd_T53 l0_1 x7_2).f0)] ?_; (with_reducible refine (tollbarref4_Among.calls k2 _ _ l1 ((rd_T53 l0_1 x7_2).f0) true _ ?side1 ?side2 A17.out).mono ?_); (case side1 => exact (Kd.C_below HR1.out HB.out)); (case side2 => exact HC1.out); rintro e w' ⟨rfl, ⟨nd, rfl⟩⟩; refine ⟨_, rfl, ?_⟩; have p607 : 0 ≤ (x7_2 : Int) := of_decide_eq_true (by first | (with_reducible assumption) | assumption); have q607 : x7_2 < (l0_1.length : Int) := of_decide_eq_true (by first | (with_reducible assumption) | assumption); obtain ⟨ad607, e607, hx607_0, hx607_1, hx607_2⟩ := at_T53 HR0_1.out x7_2 p607 q607; obtain rfl : ad605 = ad607 := (by injection e607); replace hx607_0 := (HB.out.cell (World.block_lt_of_cell? w _ hx607_0)).trans hx607_0; replace hx607_1 := (HB.out.cell (World.block_lt_of_cell? w _ hx607_1)).trans hx607_1; replace hx607_2 := (HB.out.cell (World.block_lt_of_cell? w _ hx607_2)).trans hx607_2; replace p607 := eq_true p607; replace q607 := eq_true q607) | (go_at_call 57; (with_reducible refine (tollbarref4_Among.calls k2 _ _ l1 ((rd_T53 l0_1 x7_2).f1) true _ ?side1 ?side2 A19.out).mono ?_); (case side1 => repeat (first | exact (Kd.C_below HR1.out HB.out) | (with_reducible refine Kd.C_alloc ?_ _) | (with_reducible refine Kd.C_drewN ?_ _) | (with_reducible refine Kd.C_drew ?_))); (case side2 => exact HC1.out); rintro e w' ⟨rfl, ⟨nd, rfl⟩⟩))
          go_roundg k2
          case measure => have := HJ2.out; have := HK2.out; omega
          case rel => exact ⟨(x6_2), (wrap64 (x7_2 + 1)), (by first | rfl | (simp; done) | (simp [*]; done)), H', ⟨by have := HJ2.out; have := HK2.out; omega⟩, ⟨by (with_reducible repeat (first | apply Kd.R_alloc | apply Kd.R_drewN | apply Kd.R_drew)); exact HO_6.out⟩, ⟨by (with_reducible repeat (first | refine blk_drewN ?_ _ | refine blk_drew ?_ | refine blk_alloc ?_ _)); exact BK602.out⟩, ⟨by repeat (first | (with_reducible first | exact HB.out | apply below_alloc | apply pw_below_drewN | apply below_drew1 | refine below_set ?_ GE602.out) | exact HB.out)⟩⟩
         ·
          replace c20 := Bool.eq_false_iff.mpr c20; subst c20
          have H1 : (if x6_2.length < 17592186044416 then (tollbarref4_Leaving.l0 k2 l1 (x6_2 ++ [x7_2]) (wrap64 (x7_2 + 1)) a0_0 l0_1) else (none)) = some (r1, r2) := by rw [if_neg (show ¬ (false = true) by decide)] at H; exact H
          clear H; have H := H1; clear H1
          by_cases c22 : x6_2.length < 17592186044416
          ·
           rw [if_pos c22] at H; have LMc22 := ak c22; clear c22
           obtain ⟨y609, hy609⟩ : ∃ y_ : List Int, y_ = (x6_2 ++ [x7_2]) := ⟨_, rfl⟩
           replace H : (tollbarref4_Leaving.l0 k2 l1 y609 (wrap64 (x7_2 + 1)) a0_0 l0_1) = some (r1, r2) := by first | (rw [hy609]; with_reducible exact H) | (have H2_ := (Option.bind_some _ _).symm.trans H; rw [hy609]; with_reducible exact H2_) | (have H2_ := (Option.bind_some _ _).symm.trans H; with_reducible exact H2_) | with_reducible exact H | (rw [hy609]; exact H) | exact H
           have Ny609 := ak hy609; clear hy609; have H' := ak H; clear H; have hcz23_0 : wr.cell? ⟨gb602, 0, none⟩ = some (.int .i64 a0_0) := (blk_cell BK602.out 0).trans rfl; have hcz23_1 : wr.cell? ⟨gb602, 1, none⟩ = some (.slice A0_1 l0_1.length c0_1) := (blk_cell BK602.out 1).trans rfl; have hfz23_0 := blk_frozen BK602.out 0; have hfz23_1 := blk_frozen BK602.out 1; have p605 : 0 ≤ (x7_2 : Int) := of_decide_eq_true (by first | (with_reducible assumption) | assumption); have q605 : x7_2 < (l0_1.length : Int) := of_decide_eq_true (by first | (with_reducible assumption) | assumption); obtain ⟨ad605, e605, hx605_0, hx605_1, hx605_2⟩ := at_T53 HR0_1.out x7_2 p605 q605; cases e605; replace hx605_0 := (HB.out.cell (World.block_lt_of_cell? w _ hx605_0)).trans hx605_0; replace hx605_1 := (HB.out.cell (World.block_lt_of_cell? w _ hx605_1)).trans hx605_1; replace hx605_2 := (HB.out.cell (World.block_lt_of_cell? w _ hx605_2)).trans hx605_2; replace p605 := eq_true p605; replace q605 := eq_true q605
           go_wp2_with (first | ((with_reducible refine gate_callee (f := 57) rfl ?_); refine gl 31 Try.func57 #[.slice A1 l1.length c1, .int .i64 ((rd_T53 l0_1 x7_2).f0)] ?_; (with_reducible refine (tollbarref4_Among.calls k2 _ _ l1 ((rd_T53 l0_1 x7_2).f0) true _ ?side1 ?side2 A17.out).mono ?_); (case side1 => repeat (first | exact (Kd.C_below HR1.out HB.out) | (with_reducible refine Kd.C_alloc ?_ _) | (with_reducible refine Kd.C_drewN ?_ _) | (with_reducible refine Kd.C_drew ?_))); (case side2 => exact HC1.out); rintro e w' ⟨rfl, ⟨nd, rfl⟩⟩; refine ⟨_, rfl, ?_⟩; have p607 : 0 ≤ (x7_2 : Int) := of_decide_eq_true (by first | (with_reducible assumption) | assumption); have q607 : x7_2 < (l0_1.length : Int) := of_decide_eq_true (by first | (with_reducible assumption) | assumption); obtain ⟨ad607, e607, hx607_0, hx607_1, hx607_2⟩ := at_T53 HR0_1.out x7_2 p607 q607; obtain rfl : ad605 = ad607 := (by injection e607); replace hx607_0 := (HB.out.cell (World.block_lt_of_cell? w _ hx607_0)).trans hx607_0; replace hx607_1 := (HB.out.cell (World.block_lt_of_cell? w _ hx607_1)).trans hx607_1; replace hx607_2 := (HB.out.cell (World.block_lt_of_cell? w _ hx607_2)).trans hx607_2; replace p607 := eq_true p607; replace q607 := eq_true q607) | (go_at_call 57; (with_reducible refine (tollbarref4_Among.calls k2 _ _ l1 ((rd_T53 l0_1 x7_2).f1) false _ ?side1 ?side2 A19.out).mono ?_); (case side1 => repeat (first | exact (Kd.C_below HR1.out (by repeat (first | (with_reducible first | exact HB.out | apply below_alloc | apply pw_below_drewN | apply below_drew1 | refine below_set ?_ GE602.out) | exact HB.out))) | (with_reducible refine Kd.C_alloc ?_ _) | (with_reducible refine Kd.C_drewN ?_ _) | (with_reducible refine Kd.C_drew ?_))); (case side2 => exact HC1.out); rintro e w' ⟨rfl, ⟨nd, rfl⟩⟩) | ((with_reducible refine gate_builtin (b := .append) (xs := #[.tmp 43, .tmp 45]) rfl ?_); at_builtin; refine Kd.R_append (Kd.int .i64) (w0 := w) w.heap.size rfl (.tmp 43) (.tmp 45) 25 3 (.int .i64 0) 8 rfl Try.underlying25 info3 rfl (by decide) (by omega) u6 x6_2 x7_2 [.int .i64 x7_2] (fun _ => True) (fun _ => False) rfl rfl ?aP (fun _ hk => hk.elim) ?aF ?aO ?aB ?aS ?aL ?_; (case aP => exact rfl); (case aB => exact (by repeat (first | (with_reducible first | exact HB.out | apply below_alloc | apply pw_below_drewN | apply below_drew1 | refine below_set ?_ GE602.out) | exact HB.out))); (case aF => exact (fun _ _ => trivial)); (case aO => exact (by (with_reducible repeat (first | apply Kd.R_alloc | apply Kd.R_drewN | apply Kd.R_drew)); exact HO_6.out)); (case aS => exact (below_size (by repeat (first | (with_reducible first | exact HB.out | apply below_alloc | apply pw_below_drewN | apply below_drew1 | refine below_set ?_ GE602.out) | exact HB.out)))); (case aL => have := LMc22.out; omega); intro v610 w24 ho hb hg hat; rw [← Ny609.out] at ho; replace BK602 := ak (blk_grown (by (with_reducible repeat (first | refine blk_drewN ?_ _ | refine blk_drew ?_ | refine blk_alloc ?_ _)); exact BK602.out) hg (Kd.R_ne HO_6.out BK602.out (by decide))); replace HB := ak (hb); have HO611 := ak (ho); clear HO_6; clear ho hb hg hat))
           go_roundg k2
           case measure => have := HJ2.out; have := HK2.out; omega
           case rel => exact ⟨(y609), (wrap64 (x7_2 + 1)), (by first | rfl | (simp; done) | (simp [*]; done)), H', ⟨by have := HJ2.out; have := HK2.out; omega⟩, ⟨HO611.out⟩, ⟨BK602.out⟩, ⟨HB.out⟩⟩
          ·
           rw [if_neg c22] at H; exact absurd H (by simp)
        ·
         replace c18 := Bool.eq_false_iff.mpr c18; subst c18
         have H1 : (tollbarref4_Leaving.l0 k2 l1 x6_2 (wrap64 (x7_2 + 1)) a0_0 l0_1) = some (r1, r2) := by rw [if_neg (show ¬ (false = true) by decide)] at H; exact H
         clear H; have H := H1; clear H1; have H' := ak H; clear H; have hcz25_0 : wr.cell? ⟨gb602, 0, none⟩ = some (.int .i64 a0_0) := (blk_cell BK602.out 0).trans rfl; have hcz25_1 : wr.cell? ⟨gb602, 1, none⟩ = some (.slice A0_1 l0_1.length c0_1) := (blk_cell BK602.out 1).trans rfl; have hfz25_0 := blk_frozen BK602.out 0; have hfz25_1 := blk_frozen BK602.out 1; have p605 : 0 ≤ (x7_2 : Int) := of_decide_eq_true (by first | (with_reducible assumption) | assumption); have q605 : x7_2 < (l0_1.length : Int) := of_decide_eq_true (by first | (with_reducible assumption) | assumption); obtain ⟨ad605, e605, hx605_0, hx605_1, hx605_2⟩ := at_T53 HR0_1.out x7_2 p605 q605; cases e605; replace hx605_0 := (HB.out.cell (World.block_lt_of_cell? w _ hx605_0)).trans hx605_0; replace hx605_1 := (HB.out.cell (World.block_lt_of_cell? w _ hx605_1)).trans hx605_1; replace hx605_2 := (HB.out.cell (World.block_lt_of_cell? w _ hx605_2)).trans hx605_2; replace p605 := eq_true p605; replace q605 := eq_true q605
         go_wp2_with (first | ((with_reducible refine gate_callee (f := 57) rfl ?_); refine gl 31 Try.func57 #[.slice A1 l1.length c1, .int .i64 ((rd_T53 l0_1 x7_2).f0)] ?_; (with_reducible refine (tollbarref4_Among.calls k2 _ _ l1 ((rd_T53 l0_1 x7_2).f0) false _ ?side1 ?side2 A17.out).mono ?_); (case side1 => exact (Kd.C_below HR1.out HB.out)); (case side2 => exact HC1.out); rintro e w' ⟨rfl, ⟨nd, rfl⟩⟩; refine ⟨_, rfl, ?_⟩))
         go_roundg k2
         case measure => have := HJ2.out; have := HK2.out; omega
         case rel => exact ⟨(x6_2), (wrap64 (x7_2 + 1)), (by first | rfl | (simp; done) | (simp [*]; done)), H', ⟨by have := HJ2.out; have := HK2.out; omega⟩, ⟨by (with_reducible repeat (first | apply Kd.R_alloc | apply Kd.R_drewN | apply Kd.R_drew)); exact HO_6.out⟩, ⟨by (with_reducible repeat (first | refine blk_drewN ?_ _ | refine blk_drew ?_ | refine blk_alloc ?_ _)); exact BK602.out⟩, ⟨by repeat (first | (with_reducible first | exact HB.out | apply below_alloc | apply pw_below_drewN | apply below_drew1 | refine below_set ?_ GE602.out) | exact HB.out)⟩⟩
       ·
        rw [if_neg c16] at H; exact absurd H (by simp)
      ·
       rw [if_neg c15] at H; have c15b0 : decide (x7_2 < (l0_1.length : Int)) = false := decide_eq_false c15; clear c15; simp only [Option.some.injEq, Prod.mk.injEq] at H; obtain ⟨rfl, rfl⟩ := H; have hcz26_0 : wr.cell? ⟨gb602, 0, none⟩ = some (.int .i64 a0_0) := (blk_cell BK602.out 0).trans rfl; have hcz26_1 : wr.cell? ⟨gb602, 1, none⟩ = some (.slice A0_1 l0_1.length c0_1) := (blk_cell BK602.out 1).trans rfl; have hfz26_0 := blk_frozen BK602.out 0; have hfz26_1 := blk_frozen BK602.out 1
       go_wp2
       go_ret2
       exact ⟨_, by first | rfl | (simp [errW_none, errW_some] <;> rfl) | (simp [*, errW_none, errW_some] <;> rfl), by (with_reducible repeat (first | apply Kd.R_alloc | apply Kd.R_drewN | apply Kd.R_drew)); exact HO_6.out, by repeat (first | (with_reducible first | exact HB.out | apply below_alloc | apply pw_below_drewN | apply below_drew1 | refine below_set ?_ GE602.out) | exact HB.out)⟩
/-! ### tollbarref4_Worth: function 35 -/
mutual
def tollbarref4_Worth.j0 : Nat → List Int → List Int → Bool → Int → List (S53) → Option (Int × Int)
 | 0, _, _, _, _, _ => none
 | k + 1, x1, x2, x21, xkb, xka => if x21 = true then (some (0, 800)) else ((tollbarref4_Leaving.f k xkb xka x2).bind fun bt615 => (tollbarref4_Worth.l0 k x1 bt615.1 0 0))
def tollbarref4_Worth.l0 : Nat → List Int → List Int → Int → Int → Option (Int × Int)
 | 0, _, _, _, _ => none
 | k + 1, x1, x8, x10, x11 => if x11 < (x8.length : Int) then (if 0 ≤ x11 then (if 0 ≤ (rd x8 x11) then (if (rd x8 x11) < (x1.length : Int) then (tollbarref4_Worth.l0 k x1 x8 (wrap64 (x10 + (rd x1 (rd x8 x11)))) (wrap64 (x11 + 1))) else (none)) else (none)) else (none)) else (some (x10, 0))
end
def tollbarref4_Worth.f (k : Nat) (a0_0 : Int) (l0_1 : List (S53)) (l1 : List Int) (l2 : List Int) : Option (Int × Int) := (tollbarref4_CapsMay.f k a0_0 l0_1 l1).bind fun t613 => (if t613 = true then ((tollbarref4_VertsMay.f k a0_0 l0_1 l2).bind fun t614 => (tollbarref4_Worth.j0 k l1 l2 (!t614) a0_0 l0_1)) else (tollbarref4_Worth.j0 k l1 l2 true a0_0 l0_1))
set_option maxHeartbeats 8000000 in
set_option maxRecDepth 100000 in
theorem tollbarref4_Worth.calls (k : Nat) (a0_0 : Int) (A0_1 : Option Addr) (c0_1 : Nat) (l0_1 : List (S53)) (A1 : Option Addr) (c1 : Nat) (l1 : List Int) (A2 : Option Addr) (c2 : Nat) (l2 : List Int) (r1 : Int) (r2 : Int) (w : World) (hr0_1 : Kd.C k53 w A0_1 l0_1.length l0_1) (hc0_1 : l0_1.length ≤ c0_1) (hr1 : Kd.C (Kd.int .i64) w A1 l1.length l1) (hc1 : l1.length ≤ c1) (hr2 : Kd.C (Kd.int .i64) w A2 l2.length l2) (hc2 : l2.length ≤ c2) (h : tollbarref4_Worth.f k a0_0 l0_1 l1 l2 = some (r1, r2)) :
  Calls Try.prog 35 #[.agg #[.int .i64 a0_0, .slice A0_1 l0_1.length c0_1], .slice A1 l1.length c1, .slice A2 l2.length c2] w fun e w' => e = .returned (.tuple #[.int .i64 r1, .int .i64 r2]) ∧ Below w.heap.size w w' := by
 have hu24 := Try.underlying24; have HR0_1 := ak hr0_1; have HC0_1 := ak hc0_1; clear hr0_1 hc0_1; have HR1 := ak hr1; have HC1 := ak hc1; clear hr1 hc1; have HR2 := ak hr2; have HC2 := ak hc2; clear hr2 hc2; have HB := ak (Below.refl w.heap.size w); have H : ((tollbarref4_CapsMay.f k a0_0 l0_1 l1).bind fun t613 => (if t613 = true then ((tollbarref4_VertsMay.f k a0_0 l0_1 l2).bind fun t614 => (tollbarref4_Worth.j0 k l1 l2 (!t614) a0_0 l0_1)) else (tollbarref4_Worth.j0 k l1 l2 true a0_0 l0_1))) = some (r1, r2) := h; clear h; have HC4 := ak H; clear H
 go_enter Try.func35, Try.ntmps35
 go_upto_region 1 with (first | ((with_reducible refine gate_dst (N := 3) rfl ?_); refine box_event ?hg (N := 3) ?hd (cs := #[.int .i64 a0_0, .slice A0_1 l0_1.length c0_1]) (t := 24) ?hr ?_; (case hd => rfl); (case hg => rfl); (case hr => first | (go_simp; done) | (go_simp; rfl)); intro gb612 hg w5 hbox hb; have BK612 := ak (hbox); have GW612 := ak ((by rw [hg]; exact (below_size HB.out) : w.heap.size ≤ gb612)); have GE612 := ak ((by rw [hg]; exact (below_size HB.out) : w.heap.size ≤ gb612)); replace HB := ak (below_step HB.out hb); clear hb hbox hg))
 (try simp only [Act.put, List.setIfInBounds_toArray, List.set_cons_zero, List.set_cons_succ])
 go_cut [21] (fun v21 wc => ∃ (kq : Nat) (x21_3 : Bool), v21 = .bool x21_3 ∧ Aside0 (tollbarref4_Worth.j0 kq l1 l2 x21_3 a0_0 l0_1 = some (r1, r2)) ∧ Aside0 (kq ≤ k) ∧ Aside0 (wc.heap[gb612]? = some (.cells #[.int .i64 a0_0, (.slice A0_1 l0_1.length c0_1)] 24 (0, 0))) ∧ Aside0 (Below w.heap.size w wc))
 case first =>
  have H := HC4.out; clear HC4; replace H := Option.bind_eq_some_iff.mp H; obtain ⟨t613, A60, H⟩ := H; replace H : (if t613 = true then ((tollbarref4_VertsMay.f k a0_0 l0_1 l2).bind fun t614 => (tollbarref4_Worth.j0 k l1 l2 (!t614) a0_0 l0_1)) else (tollbarref4_Worth.j0 k l1 l2 true a0_0 l0_1)) = some (r1, r2) := H; have A6 := ak A60; clear A60
  by_cases c7 : t613 = true
  ·
   subst c7
   have H1 : ((tollbarref4_VertsMay.f k a0_0 l0_1 l2).bind fun t614 => (tollbarref4_Worth.j0 k l1 l2 (!t614) a0_0 l0_1)) = some (r1, r2) := by rw [if_pos rfl] at H; exact H
   clear H; have H := H1; clear H1; replace H := Option.bind_eq_some_iff.mp H; obtain ⟨t614, A80, H⟩ := H; replace H : (tollbarref4_Worth.j0 k l1 l2 (!t614) a0_0 l0_1) = some (r1, r2) := H; have A8 := ak A80; clear A80; have H' := ak H; clear H; have hcz9_0 : w5.cell? ⟨gb612, 0, none⟩ = some (.int .i64 a0_0) := (blk_cell BK612.out 0).trans rfl; have hcz9_1 : w5.cell? ⟨gb612, 1, none⟩ = some (.slice A0_1 l0_1.length c0_1) := (blk_cell BK612.out 1).trans rfl; have hfz9_0 := blk_frozen BK612.out 0; have hfz9_1 := blk_frozen BK612.out 1
   go_wp2_with (first | ((with_reducible refine gate_callee (f := 26) rfl ?_); refine gl 14 Try.func26 #[.agg #[.int .i64 a0_0, .slice A0_1 l0_1.length c0_1], .slice A1 l1.length c1] ?_; (with_reducible refine (tollbarref4_CapsMay.calls k a0_0 _ _ l0_1 _ _ l1 true _ ?side1 ?side2 ?side3 ?side4 A6.out).mono ?_); (case side1 => exact (Kd.C_below HR0_1.out HB.out)); (case side2 => exact HC0_1.out); (case side3 => exact (Kd.C_below HR1.out HB.out)); (case side4 => exact HC1.out); rintro e w10 ⟨rfl, hb⟩; refine ⟨_, rfl, ?_⟩; replace BK612 := ak (blk_below BK612.out hb); replace HB := ak (below_step HB.out hb); (try clear hb); (try clear hb2); (try clear hk); (try clear hi); have hcz11_0 : w10.cell? ⟨gb612, 0, none⟩ = some (.int .i64 a0_0) := (blk_cell BK612.out 0).trans rfl; have hcz11_1 : w10.cell? ⟨gb612, 1, none⟩ = some (.slice A0_1 l0_1.length c0_1) := (blk_cell BK612.out 1).trans rfl; have hfz11_0 := blk_frozen BK612.out 0; have hfz11_1 := blk_frozen BK612.out 1) | (go_at_call 56; (with_reducible refine (tollbarref4_VertsMay.calls k a0_0 _ _ l0_1 _ _ l2 t614 _ ?side1 ?side2 ?side3 ?side4 A8.out).mono ?_); (case side1 => exact (Kd.C_below HR0_1.out HB.out)); (case side2 => exact HC0_1.out); (case side3 => exact (Kd.C_below HR2.out HB.out)); (case side4 => exact HC2.out); rintro e w12 ⟨rfl, hb⟩; have n0_ := ak (blk_below BK612.out hb); have n1_ := ak (below_step HB.out hb); clear BK612; clear HB; have BK612 := n0_; have HB := n1_; clear n0_ n1_; (try clear hb); (try clear hb2); (try clear hk); (try clear hi)))
   go_meet
   case rel => exact ⟨_, (!t614), (by first | rfl | (simp; done) | (simp [*]; done)), H', ⟨by first | omega | exact Nat.le_refl _⟩, ⟨BK612.out⟩, ⟨HB.out⟩⟩
  ·
   replace c7 := Bool.eq_false_iff.mpr c7; subst c7
   have H1 : (tollbarref4_Worth.j0 k l1 l2 true a0_0 l0_1) = some (r1, r2) := by rw [if_neg (show ¬ (false = true) by decide)] at H; exact H
   clear H; have H := H1; clear H1; have H' := ak H; clear H; have hcz13_0 : w5.cell? ⟨gb612, 0, none⟩ = some (.int .i64 a0_0) := (blk_cell BK612.out 0).trans rfl; have hcz13_1 : w5.cell? ⟨gb612, 1, none⟩ = some (.slice A0_1 l0_1.length c0_1) := (blk_cell BK612.out 1).trans rfl; have hfz13_0 := blk_frozen BK612.out 0; have hfz13_1 := blk_frozen BK612.out 1
   go_wp2_with (first | ((with_reducible refine gate_callee (f := 26) rfl ?_); refine gl 14 Try.func26 #[.agg #[.int .i64 a0_0, .slice A0_1 l0_1.length c0_1], .slice A1 l1.length c1] ?_; (with_reducible refine (tollbarref4_CapsMay.calls k a0_0 _ _ l0_1 _ _ l1 false _ ?side1 ?side2 ?side3 ?side4 A6.out).mono ?_); (case side1 => exact (Kd.C_below HR0_1.out HB.out)); (case side2 => exact HC0_1.out); (case side3 => exact (Kd.C_below HR1.out HB.out)); (case side4 => exact HC1.out); rintro e w14 ⟨rfl, hb⟩; refine ⟨_, rfl, ?_⟩; replace BK612 := ak (blk_below BK612.out hb); replace HB := ak (below_step HB.out hb); (try clear hb); (try clear hb2); (try clear hk); (try clear hi)))
   go_meet
   case rel => exact ⟨_, (true), (by first | rfl | (simp; done) | (simp [*]; done)), H', ⟨by first | omega | exact Nat.le_refl _⟩, ⟨BK612.out⟩, ⟨HB.out⟩⟩
 case rest =>
  clear HC4
  repeat (first | clear c1 | clear c2 | clear p2 | clear c3 | clear c7 | clear hcz11_0 | clear hcz11_1 | clear hcz13_0 | clear hcz13_1 | clear hcz9_0 | clear hcz9_1 | clear hfz11_0 | clear hfz11_1 | clear hfz13_0 | clear hfz13_1 | clear hfz9_0 | clear hfz9_1)
  obtain ⟨kq, x21_3, rfl, HA, HJ3, BK612, HB⟩ := hcut; cases kq with
  | zero => exact absurd HA.out (by simp [tollbarref4_Worth.j0])
  | succ kj3 =>
   have H := HA.out; clear HA; simp only [tollbarref4_Worth.j0] at H
   by_cases c15 : x21_3 = true
   ·
    subst c15
    have H1 : (some (0, 800)) = some (r1, r2) := by rw [if_pos rfl] at H; exact H
    clear H; have H := H1; clear H1; simp only [Option.some.injEq, Prod.mk.injEq] at H; obtain ⟨rfl, rfl⟩ := H
    go_wp2
    go_ret2
    exact ⟨by first | rfl | (simp [errW_none, errW_some] <;> rfl) | (simp [*, errW_none, errW_some] <;> rfl), by repeat (first | (with_reducible first | exact HB.out | apply below_alloc | apply pw_below_drewN | apply below_drew1 | refine below_set ?_ GE612.out) | exact HB.out)⟩
   ·
    replace c15 := Bool.eq_false_iff.mpr c15; subst c15
    have H1 : ((tollbarref4_Leaving.f kj3 a0_0 l0_1 l2).bind fun bt615 => (tollbarref4_Worth.l0 kj3 l1 bt615.1 0 0)) = some (r1, r2) := by rw [if_neg (show ¬ (false = true) by decide)] at H; exact H
    clear H; have H := H1; clear H1; replace H := Option.bind_eq_some_iff.mp H; obtain ⟨⟨t615, t618⟩, A160, H⟩ := H; replace H : (tollbarref4_Worth.l0 kj3 l1 t615 0 0) = some (r1, r2) := H; have A16 := ak A160; clear A160; have H' := ak H; clear H; have hcz17_0 : wc.cell? ⟨gb612, 0, none⟩ = some (.int .i64 a0_0) := (blk_cell BK612.out 0).trans rfl; have hcz17_1 : wc.cell? ⟨gb612, 1, none⟩ = some (.slice A0_1 l0_1.length c0_1) := (blk_cell BK612.out 1).trans rfl; have hfz17_0 := blk_frozen BK612.out 0; have hfz17_1 := blk_frozen BK612.out 1
    go_wp2_with (first | ((with_reducible refine gate_callee (f := 58) rfl ?_); refine gl 25 Try.func58 #[.agg #[.int .i64 a0_0, .slice A0_1 l0_1.length c0_1], .slice A2 l2.length c2] ?_; (with_reducible refine (tollbarref4_Leaving.calls kj3 a0_0 _ _ l0_1 _ _ l2 t615 t618 _ ?side1 ?side2 ?side3 ?side4 A16.out).mono ?_); (case side1 => exact (Kd.C_below HR0_1.out HB.out)); (case side2 => exact HC0_1.out); (case side3 => exact (Kd.C_below HR2.out HB.out)); (case side4 => exact HC2.out); rintro e w18 ⟨v616, rfl, ho0, hb⟩; refine ⟨_, rfl, ?_⟩; have HO617 := ak (Kd.R_lower ho0 (below_size HB.out)); replace BK612 := ak (blk_below BK612.out hb); replace HB := ak (below_step HB.out hb); (try clear hb); (try clear hb2); (try clear hk); (try clear hi); (try clear ho0)))
    go_loopg [10, 11] kj3 (fun kq v10 v11 w' => ∃ (x10_2 : Int) (x11_2 : Int), v10 = .int .i64 x10_2 ∧ v11 = .int .i64 x11_2 ∧ Aside0 (tollbarref4_Worth.l0 kq l1 t615 x10_2 x11_2 = some (r1, r2)) ∧ Aside0 (kq ≤ kj3) ∧ Aside0 (Kd.R (Kd.int .i64) 3 w' w.heap.size (fun _ => True) v616 t615) ∧ Aside0 (w'.heap[gb612]? = some (.cells #[.int .i64 a0_0, (.slice A0_1 l0_1.length c0_1)] 24 (0, 0))) ∧ Aside0 (Below w.heap.size w w'))
    case atStart => exact ⟨(0), (0), (by first | rfl | (simp; done) | (simp [*]; done)), (by first | rfl | (simp; done) | (simp [*]; done)), H', ⟨Nat.le_refl _⟩, ⟨HO617.out⟩, ⟨BK612.out⟩, ⟨HB.out⟩⟩
    case round =>
     clear H'
     repeat (first | clear c1 | clear c2 | clear p2 | clear c3 | clear c5 | clear c7 | clear c15 | clear hcz11_0 | clear hcz11_1 | clear hcz13_0 | clear hcz13_1 | clear hcz17_0 | clear hcz17_1 | clear hcz9_0 | clear hcz9_1 | clear hfz11_0 | clear hfz11_1 | clear hfz13_0 | clear hfz13_1 | clear hfz17_0 | clear hfz17_1 | clear hfz9_0 | clear hfz9_1)
     obtain ⟨x10_2, x11_2, rfl, rfl, HA, HK2, HO_8, BK612, HB⟩ := hrel; cases gk with
     | zero => exact absurd HA.out (by simp [tollbarref4_Worth.l0])
     | succ k2 =>
      have H := HA.out; clear HA; simp only [tollbarref4_Worth.l0] at H
      by_cases c19 : x11_2 < (t615.length : Int)
      ·
       rw [if_pos c19] at H; have c19b0 : decide (x11_2 < (t615.length : Int)) = true := decide_eq_true c19; clear c19
       by_cases c20 : 0 ≤ x11_2
       ·
        rw [if_pos c20] at H; have c20b0 : decide (0 ≤ x11_2) = true := decide_eq_true c20; clear c20
        by_cases c21 : 0 ≤ (rd t615 x11_2)
        ·
         rw [if_pos c21] at H; have c21b0 : decide (0 ≤ (rd t615 x11_2)) = true := decide_eq_true c21; clear c21
         by_cases c22 : (rd t615 x11_2) < (l1.length : Int)
         ·
          rw [if_pos c22] at H; have c22b0 : decide ((rd t615 x11_2) < (l1.length : Int)) = true := decide_eq_true c22; clear c22; have H' := ak H; clear H; obtain ⟨Ao23, co23, eo23⟩ := Kd.R_slice HO_8.out; subst eo23; have p619 : 0 ≤ (x11_2 : Int) := of_decide_eq_true (by first | (with_reducible assumption) | assumption); have q619 : x11_2 < (t615.length : Int) := of_decide_eq_true (by first | (with_reducible assumption) | assumption); obtain ⟨ad619, e619, hx619_0⟩ := Kd.at_int (Kd.R_reads' HO_8.out).2.2 x11_2 p619 q619; cases e619; replace p619 := eq_true p619; replace q619 := eq_true q619; have p620 : 0 ≤ ((rd t615 x11_2) : Int) := of_decide_eq_true (by first | (with_reducible assumption) | assumption); have q620 : (rd t615 x11_2) < (l1.length : Int) := of_decide_eq_true (by first | (with_reducible assumption) | assumption); obtain ⟨ad620, e620, hx620_0⟩ := Kd.at_int HR1.out (rd t615 x11_2) p620 q620; cases e620; replace hx620_0 := (HB.out.cell (World.block_lt_of_cell? w _ hx620_0)).trans hx620_0; replace p620 := eq_true p620; replace q620 := eq_true q620
          go_wp2
          go_roundg k2
          case measure => have := HJ3.out; have := HK2.out; omega
          case rel => exact ⟨(wrap64 (x10_2 + (rd l1 (rd t615 x11_2)))), (wrap64 (x11_2 + 1)), (by first | rfl | (simp; done) | (simp [*]; done)), (by first | rfl | (simp; done) | (simp [*]; done)), H', ⟨by have := HJ3.out; have := HK2.out; omega⟩, ⟨HO_8.out⟩, ⟨BK612.out⟩, ⟨HB.out⟩⟩
         ·
          rw [if_neg c22] at H; exact absurd H (by simp)
        ·
         rw [if_neg c21] at H; exact absurd H (by simp)
       ·
        rw [if_neg c20] at H; exact absurd H (by simp)
      ·
       rw [if_neg c19] at H; have c19b0 : decide (x11_2 < (t615.length : Int)) = false := decide_eq_false c19; clear c19; simp only [Option.some.injEq, Prod.mk.injEq] at H; obtain ⟨rfl, rfl⟩ := H; obtain ⟨Ao24, co24, eo24⟩ := Kd.R_slice HO_8.out; subst eo24
       go_wp2
       go_ret2
       exact ⟨by first | rfl | (simp [errW_none, errW_some] <;> rfl) | (simp [*, errW_none, errW_some] <;> rfl), by repeat (first | (with_reducible first | exact HB.out | apply below_alloc | apply pw_below_drewN | apply below_drew1 | refine below_set ?_ GE612.out) | exact HB.out)⟩
/-! ### tollbarref4_set: function 52 -/
def tollbarref4_set.l0 : Nat → Int → List Int → Int → Int → List (S53) → Option (List Int)
  | 0, _, _, _, _, _ => none
  | k + 1, x1, x5, x6, xka, xkb => if x6 < xka then (if 0 ≤ (IntKind.u64.wrap (x6)) then (if (Go.bits .and .i64 (shr .i64 x1 (IntKind.u64.wrap (x6))) 1) = 1 then (if x5.length < 17592186044416 then (tollbarref4_set.l0 k x1 (x5 ++ [x6]) (wrap64 (x6 + 1)) xka xkb) else (none)) else (tollbarref4_set.l0 k x1 x5 (wrap64 (x6 + 1)) xka xkb)) else (none)) else (some x5)
def tollbarref4_set.f (k : Nat) (a0_0 : Int) (l0_1 : List (S53)) (a1 : Int) : Option (List Int) := tollbarref4_set.l0 k a1 ([] : List Int) 0 a0_0 l0_1
set_option maxHeartbeats 8000000 in
set_option maxRecDepth 100000 in
theorem tollbarref4_set.calls (k : Nat) (a0_0 : Int) (A0_1 : Option Addr) (c0_1 : Nat) (l0_1 : List (S53)) (a1 : Int) (r : List Int) (w : World) (hr0_1 : Kd.C k53 w A0_1 l0_1.length l0_1) (hc0_1 : l0_1.length ≤ c0_1) (h : tollbarref4_set.f k a0_0 l0_1 a1 = some r) :
    Calls Try.prog 52 #[.agg #[.int .i64 a0_0, .slice A0_1 l0_1.length c0_1], .int .i64 a1] w fun e w' => ∃ v0_ : Value, e = .returned (v0_) ∧ Kd.R (Kd.int .i64) 3 w' w.heap.size (fun _ => True) v0_ r ∧ Below w.heap.size w w' := by
  have hu24 := Try.underlying24; have HR0_1 := ak hr0_1; have HC0_1 := ak hc0_1; clear hr0_1 hc0_1; have HB := ak (Below.refl w.heap.size w); have H : (tollbarref4_set.l0 k a1 ([] : List Int) 0 a0_0 l0_1) = some r := h; clear h; have H' := ak H; clear H
  go_enter Try.func52, Try.ntmps52
  go_wp2_with (first | ((with_reducible refine gate_dst (N := 2) rfl ?_); refine box_event ?hg (N := 2) ?hd (cs := #[.int .i64 a0_0, .slice A0_1 l0_1.length c0_1]) (t := 24) ?hr ?_; (case hd => rfl); (case hg => rfl); (case hr => first | (go_simp; done) | (go_simp; rfl)); intro gb621 hg w3 hbox hb; have BK621 := ak (hbox); have GW621 := ak ((by rw [hg]; exact (below_size HB.out) : w.heap.size ≤ gb621)); have GE621 := ak ((by rw [hg]; exact (below_size HB.out) : w.heap.size ≤ gb621)); replace HB := ak (below_step HB.out hb); clear hb hbox hg))
  go_loopg [5, 6] k (fun kq v5 v6 w' => ∃ (x5_1 : List Int) (x6_1 : Int), v6 = .int .i64 x6_1 ∧ Aside0 (tollbarref4_set.l0 kq a1 x5_1 x6_1 a0_0 l0_1 = some r) ∧ Aside0 (kq ≤ k) ∧ Aside0 (Kd.R (Kd.int .i64) 3 w' w.heap.size (fun _ => True) v5 x5_1) ∧ Aside0 (w'.heap[gb621]? = some (.cells #[.int .i64 a0_0, (.slice A0_1 l0_1.length c0_1)] 24 (0, 0))) ∧ Aside0 (Below w.heap.size w w'))
  case atStart => exact ⟨(([] : List Int)), (0), (by first | rfl | (simp; done) | (simp [*]; done)), H', ⟨Nat.le_refl _⟩, ⟨by first | exact Kd.R_nil _ _ _ _ _ | exact Kd.N_nil _ _ _ _ _ | exact Kd.V_nil _ _ _ _ _ | exact Kd.Q_nil _ _ _ _ _ | exact Kd.S_nil _ _ _ _ _⟩, ⟨BK621.out⟩, ⟨HB.out⟩⟩
  case round =>
    clear H'
    try clear p2
    obtain ⟨x5_1, x6_1, rfl, HA, HK1, HO_5, BK621, HB⟩ := hrel; cases gk with
    | zero => exact absurd HA.out (by simp [tollbarref4_set.l0])
    | succ k1 =>
      have H := HA.out; clear HA; simp only [tollbarref4_set.l0] at H
      by_cases c4 : x6_1 < a0_0
      · rw [if_pos c4] at H
        have c4b0 : decide (x6_1 < a0_0) = true := decide_eq_true c4; clear c4
        obtain ⟨ji5, hji5⟩ : ∃ j_ : Int, (IntKind.u64.wrap (x6_1)) = j_ := ⟨_, rfl⟩
        replace H : (if 0 ≤ (ji5) then (if (Go.bits .and .i64 (shr .i64 a1 (ji5)) 1) = 1 then (if x5_1.length < 17592186044416 then (tollbarref4_set.l0 k1 a1 (x5_1 ++ [x6_1]) (wrap64 (x6_1 + 1)) a0_0 l0_1) else (none)) else (tollbarref4_set.l0 k1 a1 x5_1 (wrap64 (x6_1 + 1)) a0_0 l0_1)) else (none)) = some r := by first | (rw [hji5] at H; exact H) | (simp only [hji5] at H ⊢; exact H)
        by_cases c6 : 0 ≤ (ji5)
        · rw [if_pos c6] at H
          have c6b0 := eq_true c6; have c6b1 : decide (0 ≤ (ji5)) = true := decide_eq_true c6; clear c6
          obtain ⟨ji7, hji7⟩ : ∃ j_ : Int, (shr .i64 a1 (ji5)) = j_ := ⟨_, rfl⟩
          replace H : (if (Go.bits .and .i64 (ji7) 1) = 1 then (if x5_1.length < 17592186044416 then (tollbarref4_set.l0 k1 a1 (x5_1 ++ [x6_1]) (wrap64 (x6_1 + 1)) a0_0 l0_1) else (none)) else (tollbarref4_set.l0 k1 a1 x5_1 (wrap64 (x6_1 + 1)) a0_0 l0_1)) = some r := by first | (rw [hji7] at H; exact H) | (simp only [hji7] at H ⊢; exact H)
          have hji7_ : (a1 / 2 ^ min (ji5).toNat 64) = ji7 := hji7; have hji7z : (ji5) ≤ 64 → (a1 / 2 ^ (ji5).toNat) = ji7 := shr_small hji7
          by_cases c8 : (Go.bits .and .i64 (ji7) 1) = 1
          · rw [if_pos c8] at H
            have c8b0 : ((Go.bits .and .i64 (ji7) 1) == 1) = true := beq_iff_eq.mpr c8; have c8b1 : ((Go.bits .and .i64 (ji7) 1) != 1) = false := bne_eq_false_iff_eq.mpr c8; clear c8
            by_cases c9 : x5_1.length < 17592186044416
            · rw [if_pos c9] at H
              have LMc9 := ak c9; clear c9
              obtain ⟨y622, hy622⟩ : ∃ y_ : List Int, y_ = (x5_1 ++ [x6_1]) := ⟨_, rfl⟩
              replace H : (tollbarref4_set.l0 k1 a1 y622 (wrap64 (x6_1 + 1)) a0_0 l0_1) = some r := by first | (rw [hy622]; with_reducible exact H) | (have H2_ := (Option.bind_some _ _).symm.trans H; rw [hy622]; with_reducible exact H2_) | (have H2_ := (Option.bind_some _ _).symm.trans H; with_reducible exact H2_) | with_reducible exact H | (rw [hy622]; exact H) | exact H
              have Ny622 := ak hy622; clear hy622; have H' := ak H; clear H; have hcz10_0 : wr.cell? ⟨gb621, 0, none⟩ = some (.int .i64 a0_0) := (blk_cell BK621.out 0).trans rfl; have hcz10_1 : wr.cell? ⟨gb621, 1, none⟩ = some (.slice A0_1 l0_1.length c0_1) := (blk_cell BK621.out 1).trans rfl; have hfz10_0 := blk_frozen BK621.out 0; have hfz10_1 := blk_frozen BK621.out 1
              go_wp2_with (first | ((with_reducible refine gate_builtin (b := .append) (xs := #[.tmp 19, .tmp 21]) rfl ?_); at_builtin; refine Kd.R_append (Kd.int .i64) (w0 := w) w.heap.size rfl (.tmp 19) (.tmp 21) 25 3 (.int .i64 0) 8 rfl Try.underlying25 info3 rfl (by decide) (by omega) u5 x5_1 x6_1 [.int .i64 x6_1] (fun _ => True) (fun _ => False) rfl rfl ?aP (fun _ hk => hk.elim) ?aF ?aO ?aB ?aS ?aL ?_; (case aP => exact rfl); (case aB => exact HB.out); (case aF => exact (fun _ _ => trivial)); (case aO => exact HO_5.out); (case aS => exact (below_size HB.out)); (case aL => have := LMc9.out; omega); intro v623 w11 ho hb hg hat; rw [← Ny622.out] at ho; replace BK621 := ak (blk_grown BK621.out hg (Kd.R_ne HO_5.out BK621.out (by decide))); replace HB := ak (hb); have HO624 := ak (ho); clear HO_5; clear ho hb hg hat))
              go_roundg k1
              case measure => have := HK1.out; omega
              case rel => exact ⟨(y622), (wrap64 (x6_1 + 1)), (by first | rfl | (simp; done) | (simp [*]; done)), H', ⟨by have := HK1.out; omega⟩, ⟨HO624.out⟩, ⟨BK621.out⟩, ⟨HB.out⟩⟩
            · rw [if_neg c9] at H
              exact absurd H (by simp)
          · rw [if_neg c8] at H
            have c8b0 : ((Go.bits .and .i64 (ji7) 1) == 1) = false := beq_eq_false_iff_ne.mpr c8; have c8b1 : ((Go.bits .and .i64 (ji7) 1) != 1) = true := bne_iff_ne.mpr c8; have H' := ak H; clear H; have hcz12_0 : wr.cell? ⟨gb621, 0, none⟩ = some (.int .i64 a0_0) := (blk_cell BK621.out 0).trans rfl; have hcz12_1 : wr.cell? ⟨gb621, 1, none⟩ = some (.slice A0_1 l0_1.length c0_1) := (blk_cell BK621.out 1).trans rfl; have hfz12_0 := blk_frozen BK621.out 0; have hfz12_1 := blk_frozen BK621.out 1
            go_wp2
            go_roundg k1
            case measure => have := HK1.out; omega
            case rel => exact ⟨(x5_1), (wrap64 (x6_1 + 1)), (by first | rfl | (simp; done) | (simp [*]; done)), H', ⟨by have := HK1.out; omega⟩, ⟨HO_5.out⟩, ⟨BK621.out⟩, ⟨HB.out⟩⟩
        · rw [if_neg c6] at H
          exact absurd H (by simp)
      · rw [if_neg c4] at H
        have c4b0 : decide (x6_1 < a0_0) = false := decide_eq_false c4; clear c4; obtain rfl := Option.some.inj H; have hcz13_0 : wr.cell? ⟨gb621, 0, none⟩ = some (.int .i64 a0_0) := (blk_cell BK621.out 0).trans rfl; have hcz13_1 : wr.cell? ⟨gb621, 1, none⟩ = some (.slice A0_1 l0_1.length c0_1) := (blk_cell BK621.out 1).trans rfl; have hfz13_0 := blk_frozen BK621.out 0; have hfz13_1 := blk_frozen BK621.out 1
        go_wp2
        go_ret
        exact ⟨_, by first | rfl | (simp [errW_none, errW_some] <;> rfl) | (simp [*, errW_none, errW_some] <;> rfl), by (with_reducible repeat (first | apply Kd.R_alloc | apply Kd.R_drewN | apply Kd.R_drew)); exact HO_5.out, by repeat (first | (with_reducible first | exact HB.out | apply below_alloc | apply pw_below_drewN | apply below_drew1 | refine below_set ?_ GE621.out) | exact HB.out)⟩
/-! ### tollbarref4_Least: function 27 -/
mutual
def tollbarref4_Least.l0 : Nat → List Int → Int → Int → Int → Int → Int → List (S53) → Option (Int)
 | 0, _, _, _, _, _, _, _ => none
 | k + 1, x1, x2, x3, x9, x10, xka, xkb => if 0 ≤ (IntKind.u64.wrap (xka)) then (if x10 < (shl .i64 1 (IntKind.u64.wrap (xka))) then (if 0 ≤ (IntKind.u64.wrap (x2)) then (if (Go.bits .and .i64 (shr .i64 x10 (IntKind.u64.wrap (x2))) 1) = 1 then (if 0 ≤ (IntKind.u64.wrap (x3)) then (tollbarref4_Least.j1 k x1 x2 x3 x9 x10 ((Go.bits .and .i64 (shr .i64 x10 (IntKind.u64.wrap (x3))) 1) == 0) xka xkb) else (none)) else (tollbarref4_Least.j1 k x1 x2 x3 x9 x10 false xka xkb)) else (none)) else (some x9)) else (none)
def tollbarref4_Least.j1 : Nat → List Int → Int → Int → Int → Int → Bool → Int → List (S53) → Option (Int)
 | 0, _, _, _, _, _, _, _, _ => none
 | k + 1, x1, x2, x3, x9, x10, x34, xka, xkb => if x34 = true then ((tollbarref4_set.f k xka xkb x10).bind fun t626 => ((tollbarref4_Worth.f k xka xkb x1 t626).bind fun bt629 => (if bt629.1 < x9 then (tollbarref4_Least.l0 k x1 x2 x3 bt629.1 (wrap64 (x10 + 1)) xka xkb) else (tollbarref4_Least.l0 k x1 x2 x3 x9 (wrap64 (x10 + 1)) xka xkb)))) else (tollbarref4_Least.l0 k x1 x2 x3 x9 (wrap64 (x10 + 1)) xka xkb)
end
def tollbarref4_Least.f (k : Nat) (a0_0 : Int) (l0_1 : List (S53)) (l1 : List Int) (a2 : Int) (a3 : Int) : Option (Int) := tollbarref4_Least.l0 k l1 a2 a3 4611686018427387904 0 a0_0 l0_1
def tollbarref4_Least.T6 : Bool × List (List Nat × List Nat) := (true, [([], []), ([], []), ([], []), ([], []), ([2, 3], [2, 3]), ([0, 1, 4, 4], [0, 1, 4]), ([5], [5]), ([6], [6]), ([6], [6]), ([7, 5, 0, 1, 2, 3, 4, 5, 6, 7], [7]), ([8, 9, 0, 1, 2, 3, 4, 5, 6, 7, 8, 9], [8])])
def tollbarref4_Least.B6 : List Nat := [0, 0, 0, 0, 12, 31, 63, 127, 127, 255, 1023]
theorem tollbarref4_Least.tab6 : rtab .any (opsOf Try.f27 6) = tollbarref4_Least.T6 := by kernel_rfl
theorem tollbarref4_Least.bits6 : waitsOk tollbarref4_Least.T6.2 tollbarref4_Least.B6 = true := by kernel_rfl
set_option maxHeartbeats 8000000 in
set_option maxRecDepth 100000 in
theorem tollbarref4_Least.calls (k : Nat) (a0_0 : Int) (A0_1 : Option Addr) (c0_1 : Nat) (l0_1 : List (S53)) (A1 : Option Addr) (c1 : Nat) (l1 : List Int) (a2 : Int) (a3 : Int) (r : Int) (w : World) (hr0_1 : Kd.C k53 w A0_1 l0_1.length l0_1) (hc0_1 : l0_1.length ≤ c0_1) (hr1 : Kd.C (Kd.int .i64) w A1 l1.length l1) (hc1 : l1.length ≤ c1) (h : tollbarref4_Least.f k a0_0 l0_1 l1 a2 a3 = some r) :
  Calls Try.prog 27 #[.agg #[.int .i64 a0_0, .slice A0_1 l0_1.length c0_1], .slice A1 l1.length c1, .int .i64 a2, .int .i64 a3] w fun e w' => e = .returned (.int .i64 r) ∧ Below w.heap.size w w' := by
 have hu24 := Try.underlying24; have HR0_1 := ak hr0_1; have HC0_1 := ak hc0_1; clear hr0_1 hc0_1; have HR1 := ak hr1; have HC1 := ak hc1; clear hr1 hc1; have HB := ak (Below.refl w.heap.size w); have H : (tollbarref4_Least.l0 k l1 a2 a3 4611686018427387904 0 a0_0 l0_1) = some r := h; clear h; have H' := ak H; clear H
 go_enter Try.func27, Try.ntmps27
 go_wp2_with (first | ((with_reducible refine gate_dst (N := 4) rfl ?_); refine box_event ?hg (N := 4) ?hd (cs := #[.int .i64 a0_0, .slice A0_1 l0_1.length c0_1]) (t := 24) ?hr ?_; (case hd => rfl); (case hg => rfl); (case hr => first | (go_simp; done) | (go_simp; rfl)); intro gb625 hg w5 hbox hb; have BK625 := ak (hbox); have GW625 := ak ((by rw [hg]; exact (below_size HB.out) : w.heap.size ≤ gb625)); have GE625 := ak ((by rw [hg]; exact (below_size HB.out) : w.heap.size ≤ gb625)); replace HB := ak (below_step HB.out hb); clear hb hbox hg))
 go_loopg [9, 10] k (fun kq v9 v10 w' => ∃ (x9_1 : Int) (x10_1 : Int), v9 = .int .i64 x9_1 ∧ v10 = .int .i64 x10_1 ∧ Aside0 (tollbarref4_Least.l0 kq l1 a2 a3 x9_1 x10_1 a0_0 l0_1 = some r) ∧ Aside0 (kq ≤ k) ∧ Aside0 (w'.heap[gb625]? = some (.cells #[.int .i64 a0_0, (.slice A0_1 l0_1.length c0_1)] 24 (0, 0))) ∧ Aside0 (Below w.heap.size w w'))
 case atStart => exact ⟨(4611686018427387904), (0), (by first | rfl | (simp; done) | (simp [*]; done)), (by first | rfl | (simp; done) | (simp [*]; done)), H', ⟨Nat.le_refl _⟩, ⟨BK625.out⟩, ⟨HB.out⟩⟩
 case round =>
  clear H'
  repeat (first | clear c1 | clear c2 | clear p2)
  obtain ⟨x9_1, x10_1, rfl, rfl, HA, HK1, BK625, HB⟩ := hrel; cases gk with
  | zero => exact absurd HA.out (by simp [tollbarref4_Least.l0])
  | succ k1 =>
   have H := HA.out; clear HA; simp only [tollbarref4_Least.l0] at H
   obtain ⟨ji6, hji6⟩ : ∃ j_ : Int, (IntKind.u64.wrap (a0_0)) = j_ := ⟨_, rfl⟩
   replace H : (if 0 ≤ (ji6) then (if x10_1 < (shl .i64 1 (ji6)) then (if 0 ≤ (IntKind.u64.wrap (a2)) then (if (Go.bits .and .i64 (shr .i64 x10_1 (IntKind.u64.wrap (a2))) 1) = 1 then (if 0 ≤ (IntKind.u64.wrap (a3)) then (tollbarref4_Least.j1 k1 l1 a2 a3 x9_1 x10_1 ((Go.bits .and .i64 (shr .i64 x10_1 (IntKind.u64.wrap (a3))) 1) == 0) a0_0 l0_1) else (none)) else (tollbarref4_Least.j1 k1 l1 a2 a3 x9_1 x10_1 false a0_0 l0_1)) else (none)) else (some x9_1)) else (none)) = some r := by first | (rw [hji6] at H; exact H) | (simp only [hji6] at H ⊢; exact H)
   by_cases c7 : 0 ≤ (ji6)
   ·
    rw [if_pos c7] at H; have c7b0 := eq_true c7; have c7b1 : decide (0 ≤ (ji6)) = true := decide_eq_true c7; clear c7
    obtain ⟨ji8, hji8⟩ : ∃ j_ : Int, (shl .i64 1 (ji6)) = j_ := ⟨_, rfl⟩
    replace H : (if x10_1 < (ji8) then (if 0 ≤ (IntKind.u64.wrap (a2)) then (if (Go.bits .and .i64 (shr .i64 x10_1 (IntKind.u64.wrap (a2))) 1) = 1 then (if 0 ≤ (IntKind.u64.wrap (a3)) then (tollbarref4_Least.j1 k1 l1 a2 a3 x9_1 x10_1 ((Go.bits .and .i64 (shr .i64 x10_1 (IntKind.u64.wrap (a3))) 1) == 0) a0_0 l0_1) else (none)) else (tollbarref4_Least.j1 k1 l1 a2 a3 x9_1 x10_1 false a0_0 l0_1)) else (none)) else (some x9_1)) = some r := by first | (rw [hji8] at H; exact H) | (simp only [hji8] at H ⊢; exact H)
    have hji8_ : (IntKind.i64.wrap (1 * 2 ^ min (ji6).toNat 64)) = ji8 := hji8; have hji8z : (ji6) ≤ 64 → (IntKind.i64.wrap (1 * 2 ^ (ji6).toNat)) = ji8 := shl_small hji8
    have hji8u : (IntKind.i64.wrap (2 ^ min (ji6).toNat 64)) = ji8 := by have h_ := hji8_; rw [Int.one_mul] at h_; exact h_
    have hji8v : (ji6) ≤ 64 → (IntKind.i64.wrap (2 ^ (ji6).toNat)) = ji8 := fun hle_ => by have h_ := hji8z hle_; rw [Int.one_mul] at h_; exact h_
    have hji8y : (wrap64 (1 * 2 ^ min (ji6).toNat 64)) = ji8 := (i64_w _).symm.trans hji8_
    have hji8x : (ji6) ≤ 64 → (wrap64 (1 * 2 ^ (ji6).toNat)) = ji8 := fun h_ => (i64_w _).symm.trans (hji8z h_)
    by_cases c9 : x10_1 < (ji8)
    ·
     rw [if_pos c9] at H; have c9b0 : decide (x10_1 < (ji8)) = true := decide_eq_true c9; clear c9; have HC10 := ak H; clear H; have hcz11_0 : wr.cell? ⟨gb625, 0, none⟩ = some (.int .i64 a0_0) := (blk_cell BK625.out 0).trans rfl; have hcz11_1 : wr.cell? ⟨gb625, 1, none⟩ = some (.slice A0_1 l0_1.length c0_1) := (blk_cell BK625.out 1).trans rfl; have hfz11_0 := blk_frozen BK625.out 0; have hfz11_1 := blk_frozen BK625.out 1
     go_upto_region 5 with (fail)
     go_cut [34] (fun v34 wc => ∃ (kq : Nat) (x34_9 : Bool), v34 = .bool x34_9 ∧ Aside0 (tollbarref4_Least.j1 kq l1 a2 a3 x9_1 x10_1 x34_9 a0_0 l0_1 = some r) ∧ Aside0 (kq ≤ k1) ∧ Aside0 (wc.heap[gb625]? = some (.cells #[.int .i64 a0_0, (.slice A0_1 l0_1.length c0_1)] 24 (0, 0))) ∧ Aside0 (Below w.heap.size w wc))
     case first =>
      have H := HC10.out; clear HC10
      obtain ⟨ji12, hji12⟩ : ∃ j_ : Int, (IntKind.u64.wrap (a2)) = j_ := ⟨_, rfl⟩
      replace H : (if 0 ≤ (ji12) then (if (Go.bits .and .i64 (shr .i64 x10_1 (ji12)) 1) = 1 then (if 0 ≤ (IntKind.u64.wrap (a3)) then (tollbarref4_Least.j1 k1 l1 a2 a3 x9_1 x10_1 ((Go.bits .and .i64 (shr .i64 x10_1 (IntKind.u64.wrap (a3))) 1) == 0) a0_0 l0_1) else (none)) else (tollbarref4_Least.j1 k1 l1 a2 a3 x9_1 x10_1 false a0_0 l0_1)) else (none)) = some r := by first | (rw [hji12] at H; exact H) | (simp only [hji12] at H ⊢; exact H)
      by_cases c13 : 0 ≤ (ji12)
      ·
       rw [if_pos c13] at H; have c13b0 := eq_true c13; have c13b1 : decide (0 ≤ (ji12)) = true := decide_eq_true c13; clear c13
       obtain ⟨ji14, hji14⟩ : ∃ j_ : Int, (shr .i64 x10_1 (ji12)) = j_ := ⟨_, rfl⟩
       replace H : (if (Go.bits .and .i64 (ji14) 1) = 1 then (if 0 ≤ (IntKind.u64.wrap (a3)) then (tollbarref4_Least.j1 k1 l1 a2 a3 x9_1 x10_1 ((Go.bits .and .i64 (shr .i64 x10_1 (IntKind.u64.wrap (a3))) 1) == 0) a0_0 l0_1) else (none)) else (tollbarref4_Least.j1 k1 l1 a2 a3 x9_1 x10_1 false a0_0 l0_1)) = some r := by first | (rw [hji14] at H; exact H) | (simp only [hji14] at H ⊢; exact H)
       have hji14_ : (x10_1 / 2 ^ min (ji12).toNat 64) = ji14 := hji14; have hji14z : (ji12) ≤ 64 → (x10_1 / 2 ^ (ji12).toNat) = ji14 := shr_small hji14
       by_cases c15 : (Go.bits .and .i64 (ji14) 1) = 1
       ·
        rw [if_pos c15] at H; have c15b0 : ((Go.bits .and .i64 (ji14) 1) == 1) = true := beq_iff_eq.mpr c15; have c15b1 : ((Go.bits .and .i64 (ji14) 1) != 1) = false := bne_eq_false_iff_eq.mpr c15; clear c15; (first | rw [c15b0] | (simp only [i64_w, i32_w]; rw [c15b0]) | skip)
        obtain ⟨ji16, hji16⟩ : ∃ j_ : Int, (IntKind.u64.wrap (a3)) = j_ := ⟨_, rfl⟩
        replace H : (if 0 ≤ (ji16) then (tollbarref4_Least.j1 k1 l1 a2 a3 x9_1 x10_1 ((Go.bits .and .i64 (shr .i64 x10_1 (ji16)) 1) == 0) a0_0 l0_1) else (none)) = some r := by first | (rw [hji16] at H; exact H) | (simp only [hji16] at H ⊢; exact H)
        by_cases c17 : 0 ≤ (ji16)
        ·
         rw [if_pos c17] at H; have c17b0 := eq_true c17; have c17b1 : decide (0 ≤ (ji16)) = true := decide_eq_true c17; clear c17
         obtain ⟨ji18, hji18⟩ : ∃ j_ : Int, (shr .i64 x10_1 (ji16)) = j_ := ⟨_, rfl⟩
         replace H : (tollbarref4_Least.j1 k1 l1 a2 a3 x9_1 x10_1 ((Go.bits .and .i64 (ji18) 1) == 0) a0_0 l0_1) = some r := by first | (rw [hji18] at H; exact H) | (simp only [hji18] at H ⊢; exact H)
         have hji18_ : (x10_1 / 2 ^ min (ji16).toNat 64) = ji18 := hji18; have hji18z : (ji16) ≤ 64 → (x10_1 / 2 ^ (ji16).toNat) = ji18 := shr_small hji18; have H' := ak H; clear H
         go_wp2
         go_meet
         case rel => exact ⟨_, (((Go.bits .and .i64 (ji18) 1) == 0)), (by first | rfl | (simp; done) | (simp only [← hji18] <;> (first | rfl | simp)) | (simp [*]; done)), H', ⟨by have := HK1.out; first | omega | exact Nat.le_refl _⟩, ⟨BK625.out⟩, ⟨HB.out⟩⟩
        ·
         rw [if_neg c17] at H; exact absurd H (by simp)
       ·
        rw [if_neg c15] at H; have c15b0 : ((Go.bits .and .i64 (ji14) 1) == 1) = false := beq_eq_false_iff_ne.mpr c15; have c15b1 : ((Go.bits .and .i64 (ji14) 1) != 1) = true := bne_iff_ne.mpr c15; (first | rw [c15b0] | (simp only [i64_w, i32_w]; rw [c15b0]) | skip); have H' := ak H; clear H
        go_wp2
        go_meet
        case rel => exact ⟨_, (false), (by first | rfl | (simp; done) | (simp [*]; done)), H', ⟨by have := HK1.out; first | omega | exact Nat.le_refl _⟩, ⟨BK625.out⟩, ⟨HB.out⟩⟩
      ·
       rw [if_neg c13] at H; exact absurd H (by simp)
     case rest =>
      clear HC10
      repeat (first | clear c1 | clear c2 | clear p2 | clear p6 | clear c7 | clear c7b0 | clear c7b1 | clear c9 | clear c9b0 | clear c13 | clear c13b0 | clear c13b1 | clear c15 | clear c15b0 | clear c15b1 | clear c17 | clear c17b0 | clear c17b1 | clear hcz11_0 | clear hcz11_1 | clear hfz11_0 | clear hfz11_1)
      obtain ⟨kq, x34_9, rfl, HA, HJ9, BK625, HB⟩ := hcut; cases kq with
      | zero => exact absurd HA.out (by simp [tollbarref4_Least.j1])
      | succ kj9 =>
       have H := HA.out; clear HA; simp only [tollbarref4_Least.j1] at H
       by_cases c19 : x34_9 = true
       ·
        subst c19
        have H1 : ((tollbarref4_set.f kj9 a0_0 l0_1 x10_1).bind fun t626 => ((tollbarref4_Worth.f kj9 a0_0 l0_1 l1 t626).bind fun bt629 => (if bt629.1 < x9_1 then (tollbarref4_Least.l0 kj9 l1 a2 a3 bt629.1 (wrap64 (x10_1 + 1)) a0_0 l0_1) else (tollbarref4_Least.l0 kj9 l1 a2 a3 x9_1 (wrap64 (x10_1 + 1)) a0_0 l0_1)))) = some r := by rw [if_pos rfl] at H; exact H
        clear H; have H := H1; clear H1; replace H := Option.bind_eq_some_iff.mp H; obtain ⟨t626, A200, H⟩ := H; replace H : ((tollbarref4_Worth.f kj9 a0_0 l0_1 l1 t626).bind fun bt629 => (if bt629.1 < x9_1 then (tollbarref4_Least.l0 kj9 l1 a2 a3 bt629.1 (wrap64 (x10_1 + 1)) a0_0 l0_1) else (tollbarref4_Least.l0 kj9 l1 a2 a3 x9_1 (wrap64 (x10_1 + 1)) a0_0 l0_1))) = some r := H; have A20 := ak A200; clear A200; replace H := Option.bind_eq_some_iff.mp H; obtain ⟨⟨t629, t630⟩, A210, H⟩ := H; replace H : (if t629 < x9_1 then (tollbarref4_Least.l0 kj9 l1 a2 a3 t629 (wrap64 (x10_1 + 1)) a0_0 l0_1) else (tollbarref4_Least.l0 kj9 l1 a2 a3 x9_1 (wrap64 (x10_1 + 1)) a0_0 l0_1)) = some r := H; have A21 := ak A210; clear A210
        by_cases c22 : t629 < x9_1
        ·
         rw [if_pos c22] at H; have c22b0 : decide (t629 < x9_1) = true := decide_eq_true c22; clear c22; have H' := ak H; clear H
         try go_wp2
         replace BK625 := ak (blk_drew BK625.out); replace HB := ak (below_drew1 HB.out); refine start_ (n := 11) (S := fun w' => w'.cell? ⟨gb625, 0, none⟩ = some (.int .i64 a0_0) ∧ w'.cell? ⟨gb625, 1, none⟩ = some (.slice A0_1 l0_1.length c0_1)) (ds := []) (mk 11 0) (by kernel_rfl) rfl (by kernel_rfl) ⟨(blk_cell BK625.out 0).trans rfl, (blk_cell BK625.out 1).trans rfl⟩ (fun hHeld => ?_); refine with_tabW tollbarref4_Least.tab6 tollbarref4_Least.bits6 (fun HT_ HW_ => ?_); generalize wc.drew = w23 at BK625 HB hHeld ⊢; refine pu 1 37 (mk 11 2) HT_ ?_; refine pu 3 39 (mk 11 10) HT_ ?_; refine ta 0 36 (mk 11 11) rfl rfl HT_ HW_ hHeld (Or.inl ⟨by rfl, by rintro w' ⟨s0, s1⟩; go_simp; with_reducible rfl⟩) ?_; refine ta 2 38 (mk 11 15) rfl rfl HT_ HW_ hHeld (Or.inl ⟨by rfl, by rintro w' ⟨s0, s1⟩; go_simp; with_reducible rfl⟩) ?_; refine one_ (i := 4) (N := some 40) (mk 11 31) rfl rfl (one_of HT_.out (by kernel_rfl)) (by decide) (fun K hK => ?_); refine gs Try.func52 #[.agg #[.int .i64 a0_0, .slice A0_1 l0_1.length c0_1], .int .i64 x10_1] ?_
         with_reducible refine (tollbarref4_set.calls kj9 a0_0 _ _ l0_1 x10_1 t626 _ ?side1 ?side2 A20.out).mono ?_
         (case side1 => exact (Kd.C_below HR0_1.out HB.out)); (case side2 => exact HC0_1.out); rintro e w24 ⟨v627, rfl, ho0, hb⟩; refine ⟨_, rfl, ?_⟩; have HO628 := ak (Kd.R_lower ho0 (below_size HB.out)); replace BK625 := ak (blk_below BK625.out hb); replace HB := ak (below_step HB.out hb); (try clear hb); (try clear hb2); (try clear hk); (try clear hi); (try clear ho0); obtain ⟨Ao25, co25, eo25⟩ := Kd.R_slice HO628.out; (first | subst eo25 | (injection eo25 with f1_ f2_ f3_; have f4_ := f1_.symm; have f5_ := f3_.symm; clear f1_ f2_ f3_; subst f4_; subst f5_)); refine hK.out _ _ ⟨(blk_cell BK625.out 0).trans rfl, (blk_cell BK625.out 1).trans rfl⟩ (fun hHeld => ?_); clear hK K; refine no ?_; refine one_ (i := 5) (N := some 41) (mk 11 63) rfl rfl (one_of HT_.out (by kernel_rfl)) (by decide) (fun K hK => ?_); refine gs Try.func35 #[.agg #[.int .i64 a0_0, .slice A0_1 l0_1.length c0_1], .slice A1 l1.length c1, .slice Ao25 t626.length co25] ?_
         with_reducible refine (tollbarref4_Worth.calls kj9 a0_0 _ _ l0_1 _ _ l1 _ _ t626 t629 t630 _ ?side1 ?side2 ?side3 ?side4 ?side5 ?side6 A21.out).mono ?_
         (case side1 => exact (Kd.C_below HR0_1.out HB.out)); (case side2 => exact HC0_1.out); (case side3 => exact (Kd.C_below HR1.out HB.out)); (case side4 => exact HC1.out); (case side5 => exact (Kd.R_reads' HO628.out).2.2); (case side6 => exact (Kd.R_reads' HO628.out).2.1); rintro e w26 ⟨rfl, hb⟩; refine ⟨_, rfl, ?_⟩; replace HO628 := ak (Kd.R_below HO628.out hb); replace BK625 := ak (blk_below BK625.out hb); replace HB := ak (below_step HB.out hb); (try clear hb); (try clear hb2); (try clear hk); (try clear hi); refine hK.out _ _ ⟨(blk_cell BK625.out 0).trans rfl, (blk_cell BK625.out 1).trans rfl⟩ (fun hHeld => ?_); clear hK K; refine no ?_; refine pu 6 35 (mk 11 127) HT_ ?_; refine pu 7 42 (mk 11 255) HT_ ?_; refine pu 8 43 (mk 11 511) HT_ ?_; refine pu 9 11 (mk 11 1023) HT_ ?_; refine pu 10 12 (mk 11 2047) HT_ ?_; refine done_ (done_of HT_.out (by kernel_rfl)) ?_
         try go_wp2
         go_roundg kj9
         case measure => have := HK1.out; have := HJ9.out; omega
         case rel => exact ⟨(t629), (wrap64 (x10_1 + 1)), (by first | rfl | (simp; done) | (simp [*]; done)), (by first | rfl | (simp; done) | (simp [*]; done)), H', ⟨by have := HK1.out; have := HJ9.out; omega⟩, ⟨BK625.out⟩, ⟨HB.out⟩⟩
        ·
         rw [if_neg c22] at H; have c22b0 : decide (t629 < x9_1) = false := decide_eq_false c22; clear c22; have H' := ak H; clear H
         try go_wp2
         replace BK625 := ak (blk_drew BK625.out); replace HB := ak (below_drew1 HB.out); refine start_ (n := 11) (S := fun w' => w'.cell? ⟨gb625, 0, none⟩ = some (.int .i64 a0_0) ∧ w'.cell? ⟨gb625, 1, none⟩ = some (.slice A0_1 l0_1.length c0_1)) (ds := []) (mk 11 0) (by kernel_rfl) rfl (by kernel_rfl) ⟨(blk_cell BK625.out 0).trans rfl, (blk_cell BK625.out 1).trans rfl⟩ (fun hHeld => ?_); refine with_tabW tollbarref4_Least.tab6 tollbarref4_Least.bits6 (fun HT_ HW_ => ?_); generalize wc.drew = w27 at BK625 HB hHeld ⊢; refine pu 1 37 (mk 11 2) HT_ ?_; refine pu 3 39 (mk 11 10) HT_ ?_; refine ta 0 36 (mk 11 11) rfl rfl HT_ HW_ hHeld (Or.inl ⟨by rfl, by rintro w' ⟨s0, s1⟩; go_simp; with_reducible rfl⟩) ?_; refine ta 2 38 (mk 11 15) rfl rfl HT_ HW_ hHeld (Or.inl ⟨by rfl, by rintro w' ⟨s0, s1⟩; go_simp; with_reducible rfl⟩) ?_; refine one_ (i := 4) (N := some 40) (mk 11 31) rfl rfl (one_of HT_.out (by kernel_rfl)) (by decide) (fun K hK => ?_); refine gs Try.func52 #[.agg #[.int .i64 a0_0, .slice A0_1 l0_1.length c0_1], .int .i64 x10_1] ?_
         with_reducible refine (tollbarref4_set.calls kj9 a0_0 _ _ l0_1 x10_1 t626 _ ?side1 ?side2 A20.out).mono ?_
         (case side1 => exact (Kd.C_below HR0_1.out HB.out)); (case side2 => exact HC0_1.out); rintro e w28 ⟨v627, rfl, ho0, hb⟩; refine ⟨_, rfl, ?_⟩; have HO628 := ak (Kd.R_lower ho0 (below_size HB.out)); replace BK625 := ak (blk_below BK625.out hb); replace HB := ak (below_step HB.out hb); (try clear hb); (try clear hb2); (try clear hk); (try clear hi); (try clear ho0); obtain ⟨Ao29, co29, eo29⟩ := Kd.R_slice HO628.out; (first | subst eo29 | (injection eo29 with f1_ f2_ f3_; have f4_ := f1_.symm; have f5_ := f3_.symm; clear f1_ f2_ f3_; subst f4_; subst f5_)); refine hK.out _ _ ⟨(blk_cell BK625.out 0).trans rfl, (blk_cell BK625.out 1).trans rfl⟩ (fun hHeld => ?_); clear hK K; refine no ?_; refine one_ (i := 5) (N := some 41) (mk 11 63) rfl rfl (one_of HT_.out (by kernel_rfl)) (by decide) (fun K hK => ?_); refine gs Try.func35 #[.agg #[.int .i64 a0_0, .slice A0_1 l0_1.length c0_1], .slice A1 l1.length c1, .slice Ao29 t626.length co29] ?_
         with_reducible refine (tollbarref4_Worth.calls kj9 a0_0 _ _ l0_1 _ _ l1 _ _ t626 t629 t630 _ ?side1 ?side2 ?side3 ?side4 ?side5 ?side6 A21.out).mono ?_
         (case side1 => exact (Kd.C_below HR0_1.out HB.out)); (case side2 => exact HC0_1.out); (case side3 => exact (Kd.C_below HR1.out HB.out)); (case side4 => exact HC1.out); (case side5 => exact (Kd.R_reads' HO628.out).2.2); (case side6 => exact (Kd.R_reads' HO628.out).2.1); rintro e w30 ⟨rfl, hb⟩; refine ⟨_, rfl, ?_⟩; replace HO628 := ak (Kd.R_below HO628.out hb); replace BK625 := ak (blk_below BK625.out hb); replace HB := ak (below_step HB.out hb); (try clear hb); (try clear hb2); (try clear hk); (try clear hi); refine hK.out _ _ ⟨(blk_cell BK625.out 0).trans rfl, (blk_cell BK625.out 1).trans rfl⟩ (fun hHeld => ?_); clear hK K; refine no ?_; refine pu 6 35 (mk 11 127) HT_ ?_; refine pu 7 42 (mk 11 255) HT_ ?_; refine pu 8 43 (mk 11 511) HT_ ?_; refine pu 9 11 (mk 11 1023) HT_ ?_; refine pu 10 12 (mk 11 2047) HT_ ?_; refine done_ (done_of HT_.out (by kernel_rfl)) ?_
         try go_wp2
         go_roundg kj9
         case measure => have := HK1.out; have := HJ9.out; omega
         case rel => exact ⟨(x9_1), (wrap64 (x10_1 + 1)), (by first | rfl | (simp; done) | (simp [*]; done)), (by first | rfl | (simp; done) | (simp [*]; done)), H', ⟨by have := HK1.out; have := HJ9.out; omega⟩, ⟨BK625.out⟩, ⟨HB.out⟩⟩
       ·
        replace c19 := Bool.eq_false_iff.mpr c19; subst c19
        have H1 : (tollbarref4_Least.l0 kj9 l1 a2 a3 x9_1 (wrap64 (x10_1 + 1)) a0_0 l0_1) = some r := by rw [if_neg (show ¬ (false = true) by decide)] at H; exact H
        clear H; have H := H1; clear H1; have H' := ak H; clear H
        go_wp2
        go_roundg kj9
        case measure => have := HK1.out; have := HJ9.out; omega
        case rel => exact ⟨(x9_1), (wrap64 (x10_1 + 1)), (by first | rfl | (simp; done) | (simp [*]; done)), (by first | rfl | (simp; done) | (simp [*]; done)), H', ⟨by have := HK1.out; have := HJ9.out; omega⟩, ⟨BK625.out⟩, ⟨HB.out⟩⟩
    ·
     rw [if_neg c9] at H; have c9b0 : decide (x10_1 < (ji8)) = false := decide_eq_false c9; clear c9; obtain rfl := Option.some.inj H; have hcz31_0 : wr.cell? ⟨gb625, 0, none⟩ = some (.int .i64 a0_0) := (blk_cell BK625.out 0).trans rfl; have hcz31_1 : wr.cell? ⟨gb625, 1, none⟩ = some (.slice A0_1 l0_1.length c0_1) := (blk_cell BK625.out 1).trans rfl; have hfz31_0 := blk_frozen BK625.out 0; have hfz31_1 := blk_frozen BK625.out 1
     go_wp2
     go_ret
     exact ⟨by first | rfl | (simp [errW_none, errW_some] <;> rfl) | (simp only [← hji6, ← hji8]; first | rfl | (simp [errW_none, errW_some] <;> rfl)) | (simp [*, errW_none, errW_some] <;> rfl), by repeat (first | (with_reducible first | exact HB.out | apply below_alloc | apply pw_below_drewN | apply below_drew1 | refine below_set ?_ GE625.out) | exact HB.out)⟩
   ·
    rw [if_neg c7] at H; exact absurd H (by simp)
end Go.Proofs.Ytnbhfcanknhkhaa.PAll
end
