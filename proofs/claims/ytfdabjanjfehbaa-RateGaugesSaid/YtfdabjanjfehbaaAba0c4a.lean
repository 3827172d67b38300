/- Texts of this claim, one behind the other: F4. -/
import Derived.Test.YtfdabjanjfehbaaA08f3d0
section
namespace Go.Proofs.Ytfdabjanjfehbaa.PAll
open Go.RowKit Go.Proofs.YtfdabjanjfehbaaW.PrintWords Go.Proofs.YtfdabjanjfehbaaW.PrintLast Go.Proofs.YtfdabjanjfehbaaW.PrintMore
attribute [local go_sem] max2_int min2_int max_two min_two max_three min_three max_four min_four   -- for this text's walks alone
set_option linter.unusedVariables false
set_option linter.unusedSimpArgs false
set_option maxHeartbeats 8000000
set_option maxRecDepth 100000
def tollbarlaw1_RateGauges.go : Int → Option Bool → Option Bool := fun _ r => r
def tollbarlaw1_RateGauges.l0 : Nat → Int → List (List Int) → List Int → Int → Int → Option Bool
  | 0, _, _, _, _, _ => none
  | k + 1, m, xs, ws, s, i => if i < (xs.length : Int) then (if i < (ws.length : Int) then (if 0 ≤ i then (if (rowAt xs i).length + 1 < 17592186044416 then ((tollbarref1_Sum.f k ([s] ++ rowAt xs i)).bind fun b => (if (Int.tmod (rd ws i) 2) = 0 then ((rate_Gauge_Add.f k s m (rowAt xs i)).bind fun a => (if b.2 = true then (if b.1 ≤ m then (if a.1 = true then (if a.2 = b.1 then (tollbarlaw1_RateGauges.l0 k m xs ws b.1 (wrap64 (i + 1))) else none) else none) else (if a.1 = true then none else (if a.2 = s then (tollbarlaw1_RateGauges.l0 k m xs ws s (wrap64 (i + 1))) else none))) else (if a.1 = true then none else (if a.2 = s then (tollbarlaw1_RateGauges.l0 k m xs ws s (wrap64 (i + 1))) else none)))) else ((rate_Meter_Add.f k s (rowAt xs i)).bind fun a => (if b.2 = true then (if a.1 = true then (if a.2 = b.1 then (tollbarlaw1_RateGauges.l0 k m xs ws b.1 (wrap64 (i + 1))) else none) else none) else (if a.1 = true then none else (if a.2 = s then (tollbarlaw1_RateGauges.l0 k m xs ws s (wrap64 (i + 1))) else none)))))) else none) else none) else some true) else some true
def tollbarlaw1_RateGauges.f (k : Nat) (a0 : Int) (l1 : List (List Int)) (l2 : List Int) : Option Bool := tollbarlaw1_RateGauges.l0 k (mn (mx a0 0) 4611686018427387904) l1 l2 0 0
theorem tollbarlaw1_RateGauges.room {m t : Int} : (wrap64 (m - t) < 0 → mx (wrap64 (m - t)) 0 = 0) ∧ (¬ wrap64 (m - t) < 0 → mx (wrap64 (m - t)) 0 = wrap64 (m - t)) := by
  unfold mx
  exact ⟨fun h => by rw [if_pos h], fun h => by rw [if_neg h]⟩
theorem tollbarlaw1_RateGauges.calls (k : Nat) (a0 : Int) (A1 : Option Addr) (c1 : Nat) (l1 : List (List Int)) (A2 : Option Addr) (c2 : Nat) (l2 : List Int) (r : Bool) (w : World) (hr1 : Kd.C (Kd.slice 3 (Kd.int .i64)) w A1 l1.length l1) (hc1 : l1.length ≤ c1) (hr2 : Kd.C (Kd.int .i64) w A2 l2.length l2) (hc2 : l2.length ≤ c2) (h : tollbarlaw1_RateGauges.f k a0 l1 l2 = some r) :
    Calls Try.prog 4 #[.int .i64 a0, .slice A1 l1.length c1, .slice A2 l2.length c2] w fun e w' => e = .returned (.bool r) ∧ Below w.heap.size w w' := by
  have hu25 := Try.underlying25
  have hu36 := Try.underlying36
  have HR1 := Aside0.mk hr1
  have HC1 := Aside0.mk hc1
  have HR2 := Aside0.mk hr2
  have HC2 := Aside0.mk hc2
  clear hr1 hc1 hr2 hc2
  have HB := Aside0.mk (Below.refl w.heap.size w)
  unfold tollbarlaw1_RateGauges.f at h
  have AN0 : rate_NewGauge.f a0 = some (0, mn (mx a0 0) 4611686018427387904) := rfl
  obtain ⟨x1, hx1⟩ : ∃ x_ : Int, x_ = mx a0 0 := ⟨_, rfl⟩
  rw [← hx1] at h AN0
  obtain ⟨m, hm1⟩ : ∃ x_ : Int, x_ = mn x1 4611686018427387904 := ⟨_, rfl⟩
  rw [← hm1] at h AN0
  have AN := Aside0.mk AN0
  have H' := Aside0.mk h
  clear h AN0
  go_enter Try.func4, Try.ntmps4
  go_upto_if 22 with (first | ((with_reducible refine gate_callee (f := 11) rfl ?_); refine goesL_ (some 17) rfl rfl Try.func11 (by kernel_rfl) rfl #[.int .i64 a0] rfl (by (try simp only [List.map_toArray, List.map_cons, List.map_nil]); first | done | rfl | (simp only [List.length_drop, List.length_take]; rfl)) ?_; (with_reducible refine (rate_NewGauge.calls a0 0 m w _ ?side1 AN.out).mono ?_); (case side1 => exact (hq HB.out)); rintro e wng ⟨gg, rfl, hi, hb, hbw⟩; refine ⟨_, rfl, ?_⟩; clear HB; have HB := Aside0.mk hb; have Hg := Aside0.mk hi; clear hi hb hbw))
  (try simp only [Act.put, List.setIfInBounds_toArray, List.set_cons_zero, List.set_cons_succ])
  go_cut [8] (fun v8 wc => v8 = .int .i64 x1 ∧ Aside0 (IsS36 w wc gg 0 m) ∧ Aside0 (Below w.heap.size w wc))
  case first =>
    have HE := Aside0.mk hx1
    clear hx1 hm1
    go_wp2
    all_goals
      go_meet
      case rel => exact ⟨by (first | (have e : x1 = 0 := (by have q := HE.out; unfold mx at q; split at q <;> omega); rw [e]; done) | (have e : x1 = a0 := (by have q := HE.out; unfold mx at q; split at q <;> omega); rw [e]; done)), ⟨gq Hg.out⟩, ⟨hq HB.out⟩⟩
  case rest =>
    clear Hg HB hx1
    obtain ⟨rfl, Hg, HB⟩ := hcut
    go_upto_if 24 with (fail)
    go_cut [8] (fun v8 wx => v8 = .int .i64 m ∧ Aside0 (IsS36 w wx gg 0 m) ∧ Aside0 (Below w.heap.size w wx))
    case first =>
      have HE := Aside0.mk hm1
      clear hm1
      go_wp2
      all_goals
        go_meet
        case rel => exact ⟨by (first | (have e : m = 4611686018427387904 := (by have q := HE.out; unfold mn at q; split at q <;> omega); rw [e]; done) | (have e : m = x1 := (by have q := HE.out; unfold mn at q; split at q <;> omega); rw [e]; done)), ⟨gq Hg.out⟩, ⟨hq HB.out⟩⟩
    case rest =>
      clear Hg HB hm1
      obtain ⟨rfl, Hg, HB⟩ := hcut
      go_wp2
      go_loopg [9, 10, 11, 12, 13, 14, 15] k (fun kq v9 v10 v11 v12 v13 v14 v15 w' => ∃ (s i : Int), v9 = .int .i64 s ∧ v10 = .int .i64 i ∧ Aside0 (tollbarlaw1_RateGauges.l0 kq m l1 l2 s i = some r) ∧ Aside0 (kq ≤ k) ∧ Aside0 (IsS36 w w' gg s m) ∧ Aside0 (Below w.heap.size w w'))
      case atStart => exact ⟨0, 0, (by first | rfl | (simp; done) | (simp [*]; done)), (by first | rfl | (simp; done) | (simp [*]; done)), H', ⟨Nat.le_refl _⟩, ⟨gq Hg.out⟩, ⟨hq HB.out⟩⟩
      case round =>
        clear H' Hg HB
        obtain ⟨s, i, rfl, rfl, HA, HK1, Hg, HB⟩ := hrel
        cases gk with
        | zero => exact absurd HA.out (by simp [tollbarlaw1_RateGauges.l0])
        | succ k1 =>
          have H := HA.out
          clear HA
          simp only [tollbarlaw1_RateGauges.l0] at H
          by_cases c2 : i < (l1.length : Int)
          · rw [if_pos c2] at H
            have c2b0 : decide (i < (l1.length : Int)) = true := decide_eq_true c2
            clear c2
            by_cases c3 : i < (l2.length : Int)
            · rw [if_pos c3] at H
              have c3b0 : decide (i < (l2.length : Int)) = true := decide_eq_true c3
              clear c3
              by_cases c4 : 0 ≤ i
              · rw [if_pos c4] at H
                have c4b0 : decide (0 ≤ i) = true := decide_eq_true c4
                clear c4
                have p1 : 0 ≤ (i : Int) := of_decide_eq_true (by first | (with_reducible assumption) | assumption)
                have q1 : i < (l1.length : Int) := of_decide_eq_true (by first | (with_reducible assumption) | assumption)
                have q2 : i < (l2.length : Int) := of_decide_eq_true (by first | (with_reducible assumption) | assumption)
                obtain ⟨ad1, B1, e1_, e1, hx1_0, hc1, hC1⟩ := at_rows HR1.out i p1 q1
                cases e1
                obtain ⟨ad2, e2, hx2_0⟩ := Kd.at_int HR2.out i p1 q2
                cases e2
                obtain ⟨y1, hy1⟩ : ∃ y_ : List Int, y_ = rowAt l1 i := ⟨_, rfl⟩
                rw [← hy1] at hx1_0 hc1 hC1 H
                clear hy1
                have HX := Aside0.mk hx1_0
                have HX2 := Aside0.mk hx2_0
                have HCy := Aside0.mk hc1
                have HRy := Aside0.mk hC1
                clear hx1_0 hx2_0 hc1 hC1
                replace p1 := eq_true p1
                replace q1 := eq_true q1
                replace q2 := eq_true q2
                by_cases c5 : y1.length + 1 < 17592186044416
                · rw [if_pos c5] at H
                  have LM := Aside0.mk c5
                  clear c5
                  obtain ⟨y39, hy39⟩ : ∃ y_ : List Int, y_ = ([s] : List Int) := ⟨_, rfl⟩
                  rw [← hy39] at H
                  have Nly39 := Aside0.mk (show y39.length = 1 by rw [hy39]; rfl)
                  have Ny39 := Aside0.mk hy39
                  clear hy39
                  obtain ⟨y44, hy44⟩ : ∃ y_ : List Int, y_ = y39 ++ y1 := ⟨_, rfl⟩
                  rw [← hy44] at H
                  have Ny44 := Aside0.mk hy44
                  clear hy44
                  replace H := Option.bind_eq_some_iff.mp H
                  obtain ⟨⟨b1, b2⟩, A50, H⟩ := H
                  have A5 := Aside0.mk A50
                  clear A50
                  by_cases c6 : (Int.tmod (rd l2 i) 2) = 0
                  · rw [if_pos c6] at H
                    have c6b0 : ((Int.tmod (rd l2 i) 2) == 0) = true := beq_iff_eq.mpr c6
                    clear c6
                    cases b2 with
                    | true =>
                      by_cases c7 : b1 ≤ m
                      · have c7b0 : decide (b1 ≤ m) = true := decide_eq_true c7
                        simp only [if_pos c7] at H
                        clear c7
                        obtain ⟨⟨a1, a2⟩, A60, H⟩ := Option.bind_eq_some_iff.mp H
                        have A6 := Aside0.mk A60
                        clear A60
                        replace H : (if a1 = true then (if a2 = b1 then (tollbarlaw1_RateGauges.l0 k1 m l1 l2 b1 (wrap64 (i + 1))) else none) else none) = some r := H
                        cases a1 with
                        | false => exact absurd H (by simp)
                        | true =>
                          rw [if_pos rfl] at H
                          have c8 : a2 = b1 := by
                            by_cases q : a2 = b1
                            · exact q
                            · rw [if_neg q] at H; exact absurd H (by simp)
                          rw [if_pos c8] at H
                          replace c8 := c8.symm
                          subst c8
                          have H' := Aside0.mk H
                          clear H
                          have hx1_0 := (HB.out.cell (World.block_lt_of_cell? w _ HX.out)).trans HX.out
                          have hx2_0 := (HB.out.cell (World.block_lt_of_cell? w _ HX2.out)).trans HX2.out
                          by_cases cr : wrap64 (m - b1) < 0
                          · have crb : decide (wrap64 (m - b1) < 0) = true := decide_eq_true cr
                            have HRR := Aside0.mk (tollbarlaw1_RateGauges.room.1 cr)
                            clear cr
                            go_wp2_with (first | ((with_reducible refine gate_dst (N := 39) rfl ?_); refine Kd.R_lit (Kd.int .i64) _ 3 ?hg (N := 39) ?hd (xs := ([s] : List Int)) (inner := [.int .i64 s]) (ok := fun _ => True) (okp := fun _ => True) ?hr ?hp (fun _ hk => hk) trivial (Below.refl _ _) (Nat.le_refl _) (by simp) ?_; (case hd => rfl); (case hg => rfl); (case hr => first | (go_simp; done) | (go_simp; rfl)); (case hp => exact (Reps.one (show Kd.M (Kd.int .i64) _ _ _ s [.int .i64 s] from rfl) (Reps.none _ _))); intro v39 w39 ho hb hg_ hnew_; clear hg_ hnew_; (first | rw [← Ny39.out] at ho | (simp only [Int.reduceToNat] at ho; rw [← Ny39.out] at ho)); have nO_ := Aside0.mk (Kd.R_lower ho (below_size (hq HB.out))); have nB_ := Aside0.mk (below_step (hq HB.out) hb); have ng_ := Aside0.mk (IsS36.below (gq Hg.out) hb); clear HB; have HB := nB_; clear nB_; clear Hg; have Hg := ng_; clear ng_; clear hb ho; have HO39 := nO_; clear nO_; have hx1_0 := (HB.out.cell (World.block_lt_of_cell? w _ HX.out)).trans HX.out; have hx2_0 := (HB.out.cell (World.block_lt_of_cell? w _ HX2.out)).trans HX2.out) | ((with_reducible refine gate_builtin (b := .append) (xs := #[.tmp 39, .tmp 43]) rfl ?_); at_builtin; refine Kd.R_append_rows (Kd.int .i64) (w0 := w) w.heap.size rfl (.tmp 39) (.tmp 43) 28 3 (.int .i64 0) 8 rfl Try.underlying28 info3 rfl (by decide) (by omega) v39 y39 y1 _ _ _ (fun _ => True) (fun _ => False) rfl rfl ?aO ?aR (fun _ _ h => h) (fun _ h => h.elim) ?aF ?aB ?aS ?aL ?_; (case aR => exact (Kd.C_below HRy.out HB.out)); (case aB => exact HB.out); (case aF => exact (fun _ _ => trivial)); (case aO => exact HO39.out); (case aS => exact (below_size HB.out)); (case aL => have := LM.out; have := Nly39.out; omega); intro v44 w44 ho hb hg hat; rw [← Ny44.out] at ho; have ng_ := Aside0.mk (IsS36.grown Hg.out hg (IsS36.own_ne Hg.out HO39.out (by decide))); clear HB HO39; have HB := Aside0.mk hb; have HO44 := Aside0.mk ho; clear Hg; have Hg := ng_; clear ng_; clear ho hb hg hat; obtain ⟨Ao44, co44, eo44⟩ := Kd.R_slice HO44.out; subst eo44; have hx1_0 := (HB.out.cell (World.block_lt_of_cell? w _ HX.out)).trans HX.out; have hx2_0 := (HB.out.cell (World.block_lt_of_cell? w _ HX2.out)).trans HX2.out) | ((with_reducible refine gate_callee (f := 7) rfl ?_); refine goesL_ (some 45) rfl rfl Try.func7 (by kernel_rfl) rfl #[.slice Ao44 y44.length co44] rfl (by (try simp only [List.map_toArray, List.map_cons, List.map_nil]); first | done | rfl | (simp only [List.length_drop, List.length_take]; rfl)) ?_; (with_reducible refine (tollbarref1_Sum.calls k1 _ _ y44 b1 true _ ?side1 ?side2 A5.out).mono ?_); (case side1 => exact (Kd.R_reads' HO44.out).2.2); (case side2 => exact (Kd.R_reads' HO44.out).2.1); rintro e wS ⟨rfl, hd⟩; refine ⟨_, rfl, ?_⟩; have hb : Below w44.heap.size w44 wS := (by obtain ⟨nd, hnd⟩ := hd; rw [hnd]; exact pw_below_drewN (Below.refl _ _) _); clear hd; have nB_ := Aside0.mk (below_step (hq HB.out) hb); have ng_ := Aside0.mk (IsS36.below (gq Hg.out) hb); have nHO44_ := Aside0.mk (Kd.R_below (rq HO44.out) hb); clear HB; have HB := nB_; clear nB_; clear Hg; have Hg := ng_; clear ng_; clear HO44; have HO44 := nHO44_; clear nHO44_; clear hb; have hx1_0 := (HB.out.cell (World.block_lt_of_cell? w _ HX.out)).trans HX.out; have hx2_0 := (HB.out.cell (World.block_lt_of_cell? w _ HX2.out)).trans HX2.out; clear HO44) | ((with_reducible refine gate_callee (f := 12) rfl ?_); refine goesL_ (some 67) rfl rfl Try.func12 (by kernel_rfl) rfl #[.pointer (some ⟨gg, 0, none⟩), .slice B1 y1.length e1_] rfl (by (try simp only [List.map_toArray, List.map_cons, List.map_nil]); first | done | rfl | (simp only [List.length_drop, List.length_take]; rfl)) ?_; (with_reducible refine (rate_Gauge_Add.calls m k1 gg s _ _ y1 true b1 w _ ?side1 ?side2 ?side3 ?side4 ?side5 A6.out).mono ?_); (case side1 => exact gq Hg.out); (case side2 => exact (hq HB.out)); (case side3 => exact Kd.C_below HRy.out (hq HB.out)); (case side4 => exact HCy.out); (case side5 => exact row_far HRy.out (Hg.out).2); rintro e wU ⟨rfl, hi, hb, hk⟩; refine ⟨_, rfl, ?_⟩; clear HB Hg; have HB := Aside0.mk hb; have Hg := Aside0.mk hi; clear hi hb hk) | (go_at_call 9; (with_reducible refine (rate_Meter_Total.callsG m gg b1 b1 b1 w _ ?side1 ?side2 rfl).mono ?_); (case side1 => exact gq Hg.out); (case side2 => exact (hq HB.out)); rintro e wtot ⟨rfl, hi, hb, hk⟩; clear HB Hg; have HB := Aside0.mk hb; have Hg := Aside0.mk hi; clear hi hb hk) | (go_at_call 13; (with_reducible refine (rate_Gauge_Room.calls m gg b1 _ HRR.out w _ ?side1 ?side2).mono ?_); (case side1 => exact gq Hg.out); (case side2 => exact (hq HB.out)); rintro e wrm ⟨rfl, hi, hb, hk⟩; clear HB Hg; have HB := Aside0.mk hb; have Hg := Aside0.mk hi; clear hi hb hk))
                            go_roundg k1
                            case measure => have := HK1.out; omega
                            case rel => exact ⟨b1, (wrap64 (i + 1)), (by first | rfl | (simp; done) | (simp [*]; done)), (by first | rfl | (simp; done) | (simp [*]; done)), H', ⟨by have := HK1.out; omega⟩, ⟨gq Hg.out⟩, ⟨hq HB.out⟩⟩
                          · have crb : decide (wrap64 (m - b1) < 0) = false := decide_eq_false cr
                            have HRR := Aside0.mk (tollbarlaw1_RateGauges.room.2 cr)
                            clear cr
                            go_wp2_with (first | ((with_reducible refine gate_dst (N := 39) rfl ?_); refine Kd.R_lit (Kd.int .i64) _ 3 ?hg (N := 39) ?hd (xs := ([s] : List Int)) (inner := [.int .i64 s]) (ok := fun _ => True) (okp := fun _ => True) ?hr ?hp (fun _ hk => hk) trivial (Below.refl _ _) (Nat.le_refl _) (by simp) ?_; (case hd => rfl); (case hg => rfl); (case hr => first | (go_simp; done) | (go_simp; rfl)); (case hp => exact (Reps.one (show Kd.M (Kd.int .i64) _ _ _ s [.int .i64 s] from rfl) (Reps.none _ _))); intro v39 w39 ho hb hg_ hnew_; clear hg_ hnew_; (first | rw [← Ny39.out] at ho | (simp only [Int.reduceToNat] at ho; rw [← Ny39.out] at ho)); have nO_ := Aside0.mk (Kd.R_lower ho (below_size (hq HB.out))); have nB_ := Aside0.mk (below_step (hq HB.out) hb); have ng_ := Aside0.mk (IsS36.below (gq Hg.out) hb); clear HB; have HB := nB_; clear nB_; clear Hg; have Hg := ng_; clear ng_; clear hb ho; have HO39 := nO_; clear nO_; have hx1_0 := (HB.out.cell (World.block_lt_of_cell? w _ HX.out)).trans HX.out; have hx2_0 := (HB.out.cell (World.block_lt_of_cell? w _ HX2.out)).trans HX2.out) | ((with_reducible refine gate_builtin (b := .append) (xs := #[.tmp 39, .tmp 43]) rfl ?_); at_builtin; refine Kd.R_append_rows (Kd.int .i64) (w0 := w) w.heap.size rfl (.tmp 39) (.tmp 43) 28 3 (.int .i64 0) 8 rfl Try.underlying28 info3 rfl (by decide) (by omega) v39 y39 y1 _ _ _ (fun _ => True) (fun _ => False) rfl rfl ?aO ?aR (fun _ _ h => h) (fun _ h => h.elim) ?aF ?aB ?aS ?aL ?_; (case aR => exact (Kd.C_below HRy.out HB.out)); (case aB => exact HB.out); (case aF => exact (fun _ _ => trivial)); (case aO => exact HO39.out); (case aS => exact (below_size HB.out)); (case aL => have := LM.out; have := Nly39.out; omega); intro v44 w44 ho hb hg hat; rw [← Ny44.out] at ho; have ng_ := Aside0.mk (IsS36.grown Hg.out hg (IsS36.own_ne Hg.out HO39.out (by decide))); clear HB HO39; have HB := Aside0.mk hb; have HO44 := Aside0.mk ho; clear Hg; have Hg := ng_; clear ng_; clear ho hb hg hat; obtain ⟨Ao44, co44, eo44⟩ := Kd.R_slice HO44.out; subst eo44; have hx1_0 := (HB.out.cell (World.block_lt_of_cell? w _ HX.out)).trans HX.out; have hx2_0 := (HB.out.cell (World.block_lt_of_cell? w _ HX2.out)).trans HX2.out) | ((with_reducible refine gate_callee (f := 7) rfl ?_); refine goesL_ (some 45) rfl rfl Try.func7 (by kernel_rfl) rfl #[.slice Ao44 y44.length co44] rfl (by (try simp only [List.map_toArray, List.map_cons, List.map_nil]); first | done | rfl | (simp only [List.length_drop, List.length_take]; rfl)) ?_; (with_reducible refine (tollbarref1_Sum.calls k1 _ _ y44 b1 true _ ?side1 ?side2 A5.out).mono ?_); (case side1 => exact (Kd.R_reads' HO44.out).2.2); (case side2 => exact (Kd.R_reads' HO44.out).2.1); rintro e wS ⟨rfl, hd⟩; refine ⟨_, rfl, ?_⟩; have hb : Below w44.heap.size w44 wS := (by obtain ⟨nd, hnd⟩ := hd; rw [hnd]; exact pw_below_drewN (Below.refl _ _) _); clear hd; have nB_ := Aside0.mk (below_step (hq HB.out) hb); have ng_ := Aside0.mk (IsS36.below (gq Hg.out) hb); have nHO44_ := Aside0.mk (Kd.R_below (rq HO44.out) hb); clear HB; have HB := nB_; clear nB_; clear Hg; have Hg := ng_; clear ng_; clear HO44; have HO44 := nHO44_; clear nHO44_; clear hb; have hx1_0 := (HB.out.cell (World.block_lt_of_cell? w _ HX.out)).trans HX.out; have hx2_0 := (HB.out.cell (World.block_lt_of_cell? w _ HX2.out)).trans HX2.out; clear HO44) | ((with_reducible refine gate_callee (f := 12) rfl ?_); refine goesL_ (some 67) rfl rfl Try.func12 (by kernel_rfl) rfl #[.pointer (some ⟨gg, 0, none⟩), .slice B1 y1.length e1_] rfl (by (try simp only [List.map_toArray, List.map_cons, List.map_nil]); first | done | rfl | (simp only [List.length_drop, List.length_take]; rfl)) ?_; (with_reducible refine (rate_Gauge_Add.calls m k1 gg s _ _ y1 true b1 w _ ?side1 ?side2 ?side3 ?side4 ?side5 A6.out).mono ?_); (case side1 => exact gq Hg.out); (case side2 => exact (hq HB.out)); (case side3 => exact Kd.C_below HRy.out (hq HB.out)); (case side4 => exact HCy.out); (case side5 => exact row_far HRy.out (Hg.out).2); rintro e wU ⟨rfl, hi, hb, hk⟩; refine ⟨_, rfl, ?_⟩; clear HB Hg; have HB := Aside0.mk hb; have Hg := Aside0.mk hi; clear hi hb hk) | (go_at_call 9; (with_reducible refine (rate_Meter_Total.callsG m gg b1 b1 b1 w _ ?side1 ?side2 rfl).mono ?_); (case side1 => exact gq Hg.out); (case side2 => exact (hq HB.out)); rintro e wtot ⟨rfl, hi, hb, hk⟩; clear HB Hg; have HB := Aside0.mk hb; have Hg := Aside0.mk hi; clear hi hb hk) | (go_at_call 13; (with_reducible refine (rate_Gauge_Room.calls m gg b1 _ HRR.out w _ ?side1 ?side2).mono ?_); (case side1 => exact gq Hg.out); (case side2 => exact (hq HB.out)); rintro e wrm ⟨rfl, hi, hb, hk⟩; clear HB Hg; have HB := Aside0.mk hb; have Hg := Aside0.mk hi; clear hi hb hk))
                            go_roundg k1
                            case measure => have := HK1.out; omega
                            case rel => exact ⟨b1, (wrap64 (i + 1)), (by first | rfl | (simp; done) | (simp [*]; done)), (by first | rfl | (simp; done) | (simp [*]; done)), H', ⟨by have := HK1.out; omega⟩, ⟨gq Hg.out⟩, ⟨hq HB.out⟩⟩
                      · have c7b0 : decide (b1 ≤ m) = false := decide_eq_false c7
                        simp only [if_neg c7] at H
                        clear c7
                        obtain ⟨⟨a1, a2⟩, A60, H⟩ := Option.bind_eq_some_iff.mp H
                        have A6 := Aside0.mk A60
                        clear A60
                        replace H : (if a1 = true then none else (if a2 = s then (tollbarlaw1_RateGauges.l0 k1 m l1 l2 s (wrap64 (i + 1))) else none)) = some r := H
                        cases a1 with
                        | true => exact absurd H (by simp)
                        | false =>
                          rw [if_neg (by decide)] at H
                          have c8 : a2 = s := by
                            by_cases q : a2 = s
                            · exact q
                            · rw [if_neg q] at H; exact absurd H (by simp)
                          rw [if_pos c8] at H
                          replace c8 := c8.symm
                          subst c8
                          have H' := Aside0.mk H
                          clear H
                          have hx1_0 := (HB.out.cell (World.block_lt_of_cell? w _ HX.out)).trans HX.out
                          have hx2_0 := (HB.out.cell (World.block_lt_of_cell? w _ HX2.out)).trans HX2.out
                          by_cases cr : wrap64 (m - s) < 0
                          · have crb : decide (wrap64 (m - s) < 0) = true := decide_eq_true cr
                            have HRR := Aside0.mk (tollbarlaw1_RateGauges.room.1 cr)
                            clear cr
                            go_wp2_with (first | ((with_reducible refine gate_dst (N := 39) rfl ?_); refine Kd.R_lit (Kd.int .i64) _ 3 ?hg (N := 39) ?hd (xs := ([s] : List Int)) (inner := [.int .i64 s]) (ok := fun _ => True) (okp := fun _ => True) ?hr ?hp (fun _ hk => hk) trivial (Below.refl _ _) (Nat.le_refl _) (by simp) ?_; (case hd => rfl); (case hg => rfl); (case hr => first | (go_simp; done) | (go_simp; rfl)); (case hp => exact (Reps.one (show Kd.M (Kd.int .i64) _ _ _ s [.int .i64 s] from rfl) (Reps.none _ _))); intro v39 w39 ho hb hg_ hnew_; clear hg_ hnew_; (first | rw [← Ny39.out] at ho | (simp only [Int.reduceToNat] at ho; rw [← Ny39.out] at ho)); have nO_ := Aside0.mk (Kd.R_lower ho (below_size (hq HB.out))); have nB_ := Aside0.mk (below_step (hq HB.out) hb); have ng_ := Aside0.mk (IsS36.below (gq Hg.out) hb); clear HB; have HB := nB_; clear nB_; clear Hg; have Hg := ng_; clear ng_; clear hb ho; have HO39 := nO_; clear nO_; have hx1_0 := (HB.out.cell (World.block_lt_of_cell? w _ HX.out)).trans HX.out; have hx2_0 := (HB.out.cell (World.block_lt_of_cell? w _ HX2.out)).trans HX2.out) | ((with_reducible refine gate_builtin (b := .append) (xs := #[.tmp 39, .tmp 43]) rfl ?_); at_builtin; refine Kd.R_append_rows (Kd.int .i64) (w0 := w) w.heap.size rfl (.tmp 39) (.tmp 43) 28 3 (.int .i64 0) 8 rfl Try.underlying28 info3 rfl (by decide) (by omega) v39 y39 y1 _ _ _ (fun _ => True) (fun _ => False) rfl rfl ?aO ?aR (fun _ _ h => h) (fun _ h => h.elim) ?aF ?aB ?aS ?aL ?_; (case aR => exact (Kd.C_below HRy.out HB.out)); (case aB => exact HB.out); (case aF => exact (fun _ _ => trivial)); (case aO => exact HO39.out); (case aS => exact (below_size HB.out)); (case aL => have := LM.out; have := Nly39.out; omega); intro v44 w44 ho hb hg hat; rw [← Ny44.out] at ho; have ng_ := Aside0.mk (IsS36.grown Hg.out hg (IsS36.own_ne Hg.out HO39.out (by decide))); clear HB HO39; have HB := Aside0.mk hb; have HO44 := Aside0.mk ho; clear Hg; have Hg := ng_; clear ng_; clear ho hb hg hat; obtain ⟨Ao44, co44, eo44⟩ := Kd.R_slice HO44.out; subst eo44; have hx1_0 := (HB.out.cell (World.block_lt_of_cell? w _ HX.out)).trans HX.out; have hx2_0 := (HB.out.cell (World.block_lt_of_cell? w _ HX2.out)).trans HX2.out) | ((with_reducible refine gate_callee (f := 7) rfl ?_); refine goesL_ (some 45) rfl rfl Try.func7 (by kernel_rfl) rfl #[.slice Ao44 y44.length co44] rfl (by (try simp only [List.map_toArray, List.map_cons, List.map_nil]); first | done | rfl | (simp only [List.length_drop, List.length_take]; rfl)) ?_; (with_reducible refine (tollbarref1_Sum.calls k1 _ _ y44 b1 true _ ?side1 ?side2 A5.out).mono ?_); (case side1 => exact (Kd.R_reads' HO44.out).2.2); (case side2 => exact (Kd.R_reads' HO44.out).2.1); rintro e wS ⟨rfl, hd⟩; refine ⟨_, rfl, ?_⟩; have hb : Below w44.heap.size w44 wS := (by obtain ⟨nd, hnd⟩ := hd; rw [hnd]; exact pw_below_drewN (Below.refl _ _) _); clear hd; have nB_ := Aside0.mk (below_step (hq HB.out) hb); have ng_ := Aside0.mk (IsS36.below (gq Hg.out) hb); have nHO44_ := Aside0.mk (Kd.R_below (rq HO44.out) hb); clear HB; have HB := nB_; clear nB_; clear Hg; have Hg := ng_; clear ng_; clear HO44; have HO44 := nHO44_; clear nHO44_; clear hb; have hx1_0 := (HB.out.cell (World.block_lt_of_cell? w _ HX.out)).trans HX.out; have hx2_0 := (HB.out.cell (World.block_lt_of_cell? w _ HX2.out)).trans HX2.out; clear HO44) | ((with_reducible refine gate_callee (f := 12) rfl ?_); refine goesL_ (some 67) rfl rfl Try.func12 (by kernel_rfl) rfl #[.pointer (some ⟨gg, 0, none⟩), .slice B1 y1.length e1_] rfl (by (try simp only [List.map_toArray, List.map_cons, List.map_nil]); first | done | rfl | (simp only [List.length_drop, List.length_take]; rfl)) ?_; (with_reducible refine (rate_Gauge_Add.calls m k1 gg s _ _ y1 false s w _ ?side1 ?side2 ?side3 ?side4 ?side5 A6.out).mono ?_); (case side1 => exact gq Hg.out); (case side2 => exact (hq HB.out)); (case side3 => exact Kd.C_below HRy.out (hq HB.out)); (case side4 => exact HCy.out); (case side5 => exact row_far HRy.out (Hg.out).2); rintro e wU ⟨rfl, hi, hb, hk⟩; refine ⟨_, rfl, ?_⟩; clear HB Hg; have HB := Aside0.mk hb; have Hg := Aside0.mk hi; clear hi hb hk) | (go_at_call 9; (with_reducible refine (rate_Meter_Total.callsG m gg s s s w _ ?side1 ?side2 rfl).mono ?_); (case side1 => exact gq Hg.out); (case side2 => exact (hq HB.out)); rintro e wtot ⟨rfl, hi, hb, hk⟩; clear HB Hg; have HB := Aside0.mk hb; have Hg := Aside0.mk hi; clear hi hb hk) | (go_at_call 13; (with_reducible refine (rate_Gauge_Room.calls m gg s _ HRR.out w _ ?side1 ?side2).mono ?_); (case side1 => exact gq Hg.out); (case side2 => exact (hq HB.out)); rintro e wrm ⟨rfl, hi, hb, hk⟩; clear HB Hg; have HB := Aside0.mk hb; have Hg := Aside0.mk hi; clear hi hb hk))
                            go_roundg k1
                            case measure => have := HK1.out; omega
                            case rel => exact ⟨s, (wrap64 (i + 1)), (by first | rfl | (simp; done) | (simp [*]; done)), (by first | rfl | (simp; done) | (simp [*]; done)), H', ⟨by have := HK1.out; omega⟩, ⟨gq Hg.out⟩, ⟨hq HB.out⟩⟩
                          · have crb : decide (wrap64 (m - s) < 0) = false := decide_eq_false cr
                            have HRR := Aside0.mk (tollbarlaw1_RateGauges.room.2 cr)
                            clear cr
                            go_wp2_with (first | ((with_reducible refine gate_dst (N := 39) rfl ?_); refine Kd.R_lit (Kd.int .i64) _ 3 ?hg (N := 39) ?hd (xs := ([s] : List Int)) (inner := [.int .i64 s]) (ok := fun _ => True) (okp := fun _ => True) ?hr ?hp (fun _ hk => hk) trivial (Below.refl _ _) (Nat.le_refl _) (by simp) ?_; (case hd => rfl); (case hg => rfl); (case hr => first | (go_simp; done) | (go_simp; rfl)); (case hp => exact (Reps.one (show Kd.M (Kd.int .i64) _ _ _ s [.int .i64 s] from rfl) (Reps.none _ _))); intro v39 w39 ho hb hg_ hnew_; clear hg_ hnew_; (first | rw [← Ny39.out] at ho | (simp only [Int.reduceToNat] at ho; rw [← Ny39.out] at ho)); have nO_ := Aside0.mk (Kd.R_lower ho (below_size (hq HB.out))); have nB_ := Aside0.mk (below_step (hq HB.out) hb); have ng_ := Aside0.mk (IsS36.below (gq Hg.out) hb); clear HB; have HB := nB_; clear nB_; clear Hg; have Hg := ng_; clear ng_; clear hb ho; have HO39 := nO_; clear nO_; have hx1_0 := (HB.out.cell (World.block_lt_of_cell? w _ HX.out)).trans HX.out; have hx2_0 := (HB.out.cell (World.block_lt_of_cell? w _ HX2.out)).trans HX2.out) | ((with_reducible refine gate_builtin (b := .append) (xs := #[.tmp 39, .tmp 43]) rfl ?_); at_builtin; refine Kd.R_append_rows (Kd.int .i64) (w0 := w) w.heap.size rfl (.tmp 39) (.tmp 43) 28 3 (.int .i64 0) 8 rfl Try.underlying28 info3 rfl (by decide) (by omega) v39 y39 y1 _ _ _ (fun _ => True) (fun _ => False) rfl rfl ?aO ?aR (fun _ _ h => h) (fun _ h => h.elim) ?aF ?aB ?aS ?aL ?_; (case aR => exact (Kd.C_below HRy.out HB.out)); (case aB => exact HB.out); (case aF => exact (fun _ _ => trivial)); (case aO => exact HO39.out); (case aS => exact (below_size HB.out)); (case aL => have := LM.out; have := Nly39.out; omega); intro v44 w44 ho hb hg hat; rw [← Ny44.out] at ho; have ng_ := Aside0.mk (IsS36.grown Hg.out hg (IsS36.own_ne Hg.out HO39.out (by decide))); clear HB HO39; have HB := Aside0.mk hb; have HO44 := Aside0.mk ho; clear Hg; have Hg := ng_; clear ng_; clear ho hb hg hat; obtain ⟨Ao44, co44, eo44⟩ := Kd.R_slice HO44.out; subst eo44; have hx1_0 := (HB.out.cell (World.block_lt_of_cell? w _ HX.out)).trans HX.out; have hx2_0 := (HB.out.cell (World.block_lt_of_cell? w _ HX2.out)).trans HX2.out) | ((with_reducible refine gate_callee (f := 7) rfl ?_); refine goesL_ (some 45) rfl rfl Try.func7 (by kernel_rfl) rfl #[.slice Ao44 y44.length co44] rfl (by (try simp only [List.map_toArray, List.map_cons, List.map_nil]); first | done | rfl | (simp only [List.length_drop, List.length_take]; rfl)) ?_; (with_reducible refine (tollbarref1_Sum.calls k1 _ _ y44 b1 true _ ?side1 ?side2 A5.out).mono ?_); (case side1 => exact (Kd.R_reads' HO44.out).2.2); (case side2 => exact (Kd.R_reads' HO44.out).2.1); rintro e wS ⟨rfl, hd⟩; refine ⟨_, rfl, ?_⟩; have hb : Below w44.heap.size w44 wS := (by obtain ⟨nd, hnd⟩ := hd; rw [hnd]; exact pw_below_drewN (Below.refl _ _) _); clear hd; have nB_ := Aside0.mk (below_step (hq HB.out) hb); have ng_ := Aside0.mk (IsS36.below (gq Hg.out) hb); have nHO44_ := Aside0.mk (Kd.R_below (rq HO44.out) hb); clear HB; have HB := nB_; clear nB_; clear Hg; have Hg := ng_; clear ng_; clear HO44; have HO44 := nHO44_; clear nHO44_; clear hb; have hx1_0 := (HB.out.cell (World.block_lt_of_cell? w _ HX.out)).trans HX.out; have hx2_0 := (HB.out.cell (World.block_lt_of_cell? w _ HX2.out)).trans HX2.out; clear HO44) | ((with_reducible refine gate_callee (f := 12) rfl ?_); refine goesL_ (some 67) rfl rfl Try.func12 (by kernel_rfl) rfl #[.pointer (some ⟨gg, 0, none⟩), .slice B1 y1.length e1_] rfl (by (try simp only [List.map_toArray, List.map_cons, List.map_nil]); first | done | rfl | (simp only [List.length_drop, List.length_take]; rfl)) ?_; (with_reducible refine (rate_Gauge_Add.calls m k1 gg s _ _ y1 false s w _ ?side1 ?side2 ?side3 ?side4 ?side5 A6.out).mono ?_); (case side1 => exact gq Hg.out); (case side2 => exact (hq HB.out)); (case side3 => exact Kd.C_below HRy.out (hq HB.out)); (case side4 => exact HCy.out); (case side5 => exact row_far HRy.out (Hg.out).2); rintro e wU ⟨rfl, hi, hb, hk⟩; refine ⟨_, rfl, ?_⟩; clear HB Hg; have HB := Aside0.mk hb; have Hg := Aside0.mk hi; clear hi hb hk) | (go_at_call 9; (with_reducible refine (rate_Meter_Total.callsG m gg s s s w _ ?side1 ?side2 rfl).mono ?_); (case side1 => exact gq Hg.out); (case side2 => exact (hq HB.out)); rintro e wtot ⟨rfl, hi, hb, hk⟩; clear HB Hg; have HB := Aside0.mk hb; have Hg := Aside0.mk hi; clear hi hb hk) | (go_at_call 13; (with_reducible refine (rate_Gauge_Room.calls m gg s _ HRR.out w _ ?side1 ?side2).mono ?_); (case side1 => exact gq Hg.out); (case side2 => exact (hq HB.out)); rintro e wrm ⟨rfl, hi, hb, hk⟩; clear HB Hg; have HB := Aside0.mk hb; have Hg := Aside0.mk hi; clear hi hb hk))
                            go_roundg k1
                            case measure => have := HK1.out; omega
                            case rel => exact ⟨s, (wrap64 (i + 1)), (by first | rfl | (simp; done) | (simp [*]; done)), (by first | rfl | (simp; done) | (simp [*]; done)), H', ⟨by have := HK1.out; omega⟩, ⟨gq Hg.out⟩, ⟨hq HB.out⟩⟩
                    | false =>
                      obtain ⟨⟨a1, a2⟩, A60, H⟩ := Option.bind_eq_some_iff.mp H
                      have A6 := Aside0.mk A60
                      clear A60
                      replace H : (if a1 = true then none else (if a2 = s then (tollbarlaw1_RateGauges.l0 k1 m l1 l2 s (wrap64 (i + 1))) else none)) = some r := H
                      cases a1 with
                      | true => exact absurd H (by simp)
                      | false =>
                        rw [if_neg (by decide)] at H
                        have c8 : a2 = s := by
                          by_cases q : a2 = s
                          · exact q
                          · rw [if_neg q] at H; exact absurd H (by simp)
                        rw [if_pos c8] at H
                        replace c8 := c8.symm
                        subst c8
                        have H' := Aside0.mk H
                        clear H
                        have hx1_0 := (HB.out.cell (World.block_lt_of_cell? w _ HX.out)).trans HX.out
                        have hx2_0 := (HB.out.cell (World.block_lt_of_cell? w _ HX2.out)).trans HX2.out
                        by_cases cr : wrap64 (m - s) < 0
                        · have crb : decide (wrap64 (m - s) < 0) = true := decide_eq_true cr
                          have HRR := Aside0.mk (tollbarlaw1_RateGauges.room.1 cr)
                          clear cr
                          go_wp2_with (first | ((with_reducible refine gate_dst (N := 39) rfl ?_); refine Kd.R_lit (Kd.int .i64) _ 3 ?hg (N := 39) ?hd (xs := ([s] : List Int)) (inner := [.int .i64 s]) (ok := fun _ => True) (okp := fun _ => True) ?hr ?hp (fun _ hk => hk) trivial (Below.refl _ _) (Nat.le_refl _) (by simp) ?_; (case hd => rfl); (case hg => rfl); (case hr => first | (go_simp; done) | (go_simp; rfl)); (case hp => exact (Reps.one (show Kd.M (Kd.int .i64) _ _ _ s [.int .i64 s] from rfl) (Reps.none _ _))); intro v39 w39 ho hb hg_ hnew_; clear hg_ hnew_; (first | rw [← Ny39.out] at ho | (simp only [Int.reduceToNat] at ho; rw [← Ny39.out] at ho)); have nO_ := Aside0.mk (Kd.R_lower ho (below_size (hq HB.out))); have nB_ := Aside0.mk (below_step (hq HB.out) hb); have ng_ := Aside0.mk (IsS36.below (gq Hg.out) hb); clear HB; have HB := nB_; clear nB_; clear Hg; have Hg := ng_; clear ng_; clear hb ho; have HO39 := nO_; clear nO_; have hx1_0 := (HB.out.cell (World.block_lt_of_cell? w _ HX.out)).trans HX.out; have hx2_0 := (HB.out.cell (World.block_lt_of_cell? w _ HX2.out)).trans HX2.out) | ((with_reducible refine gate_builtin (b := .append) (xs := #[.tmp 39, .tmp 43]) rfl ?_); at_builtin; refine Kd.R_append_rows (Kd.int .i64) (w0 := w) w.heap.size rfl (.tmp 39) (.tmp 43) 28 3 (.int .i64 0) 8 rfl Try.underlying28 info3 rfl (by decide) (by omega) v39 y39 y1 _ _ _ (fun _ => True) (fun _ => False) rfl rfl ?aO ?aR (fun _ _ h => h) (fun _ h => h.elim) ?aF ?aB ?aS ?aL ?_; (case aR => exact (Kd.C_below HRy.out HB.out)); (case aB => exact HB.out); (case aF => exact (fun _ _ => trivial)); (case aO => exact HO39.out); (case aS => exact (below_size HB.out)); (case aL => have := LM.out; have := Nly39.out; omega); intro v44 w44 ho hb hg hat; rw [← Ny44.out] at ho; have ng_ := Aside0.mk (IsS36.grown Hg.out hg (IsS36.own_ne Hg.out HO39.out (by decide))); clear HB HO39; have HB := Aside0.mk hb; have HO44 := Aside0.mk ho; clear Hg; have Hg := ng_; clear ng_; clear ho hb hg hat; obtain ⟨Ao44, co44, eo44⟩ := Kd.R_slice HO44.out; subst eo44; have hx1_0 := (HB.out.cell (World.block_lt_of_cell? w _ HX.out)).trans HX.out; have hx2_0 := (HB.out.cell (World.block_lt_of_cell? w _ HX2.out)).trans HX2.out) | ((with_reducible refine gate_callee (f := 7) rfl ?_); refine goesL_ (some 45) rfl rfl Try.func7 (by kernel_rfl) rfl #[.slice Ao44 y44.length co44] rfl (by (try simp only [List.map_toArray, List.map_cons, List.map_nil]); first | done | rfl | (simp only [List.length_drop, List.length_take]; rfl)) ?_; (with_reducible refine (tollbarref1_Sum.calls k1 _ _ y44 b1 false _ ?side1 ?side2 A5.out).mono ?_); (case side1 => exact (Kd.R_reads' HO44.out).2.2); (case side2 => exact (Kd.R_reads' HO44.out).2.1); rintro e wS ⟨rfl, hd⟩; refine ⟨_, rfl, ?_⟩; have hb : Below w44.heap.size w44 wS := (by obtain ⟨nd, hnd⟩ := hd; rw [hnd]; exact pw_below_drewN (Below.refl _ _) _); clear hd; have nB_ := Aside0.mk (below_step (hq HB.out) hb); have ng_ := Aside0.mk (IsS36.below (gq Hg.out) hb); have nHO44_ := Aside0.mk (Kd.R_below (rq HO44.out) hb); clear HB; have HB := nB_; clear nB_; clear Hg; have Hg := ng_; clear ng_; clear HO44; have HO44 := nHO44_; clear nHO44_; clear hb; have hx1_0 := (HB.out.cell (World.block_lt_of_cell? w _ HX.out)).trans HX.out; have hx2_0 := (HB.out.cell (World.block_lt_of_cell? w _ HX2.out)).trans HX2.out; clear HO44) | ((with_reducible refine gate_callee (f := 12) rfl ?_); refine goesL_ (some 67) rfl rfl Try.func12 (by kernel_rfl) rfl #[.pointer (some ⟨gg, 0, none⟩), .slice B1 y1.length e1_] rfl (by (try simp only [List.map_toArray, List.map_cons, List.map_nil]); first | done | rfl | (simp only [List.length_drop, List.length_take]; rfl)) ?_; (with_reducible refine (rate_Gauge_Add.calls m k1 gg s _ _ y1 false s w _ ?side1 ?side2 ?side3 ?side4 ?side5 A6.out).mono ?_); (case side1 => exact gq Hg.out); (case side2 => exact (hq HB.out)); (case side3 => exact Kd.C_below HRy.out (hq HB.out)); (case side4 => exact HCy.out); (case side5 => exact row_far HRy.out (Hg.out).2); rintro e wU ⟨rfl, hi, hb, hk⟩; refine ⟨_, rfl, ?_⟩; clear HB Hg; have HB := Aside0.mk hb; have Hg := Aside0.mk hi; clear hi hb hk) | (go_at_call 9; (with_reducible refine (rate_Meter_Total.callsG m gg s s s w _ ?side1 ?side2 rfl).mono ?_); (case side1 => exact gq Hg.out); (case side2 => exact (hq HB.out)); rintro e wtot ⟨rfl, hi, hb, hk⟩; clear HB Hg; have HB := Aside0.mk hb; have Hg := Aside0.mk hi; clear hi hb hk) | (go_at_call 13; (with_reducible refine (rate_Gauge_Room.calls m gg s _ HRR.out w _ ?side1 ?side2).mono ?_); (case side1 => exact gq Hg.out); (case side2 => exact (hq HB.out)); rintro e wrm ⟨rfl, hi, hb, hk⟩; clear HB Hg; have HB := Aside0.mk hb; have Hg := Aside0.mk hi; clear hi hb hk))
                          go_roundg k1
                          case measure => have := HK1.out; omega
                          case rel => exact ⟨s, (wrap64 (i + 1)), (by first | rfl | (simp; done) | (simp [*]; done)), (by first | rfl | (simp; done) | (simp [*]; done)), H', ⟨by have := HK1.out; omega⟩, ⟨gq Hg.out⟩, ⟨hq HB.out⟩⟩
                        · have crb : decide (wrap64 (m - s) < 0) = false := decide_eq_false cr
                          have HRR := Aside0.mk (tollbarlaw1_RateGauges.room.2 cr)
                          clear cr
                          go_wp2_with (first | ((with_reducible refine gate_dst (N := 39) rfl ?_); refine Kd.R_lit (Kd.int .i64) _ 3 ?hg (N := 39) ?hd (xs := ([s] : List Int)) (inner := [.int .i64 s]) (ok := fun _ => True) (okp := fun _ => True) ?hr ?hp (fun _ hk => hk) trivial (Below.refl _ _) (Nat.le_refl _) (by simp) ?_; (case hd => rfl); (case hg => rfl); (case hr => first | (go_simp; done) | (go_simp; rfl)); (case hp => exact (Reps.one (show Kd.M (Kd.int .i64) _ _ _ s [.int .i64 s] from rfl) (Reps.none _ _))); intro v39 w39 ho hb hg_ hnew_; clear hg_ hnew_; (first | rw [← Ny39.out] at ho | (simp only [Int.reduceToNat] at ho; rw [← Ny39.out] at ho)); have nO_ := Aside0.mk (Kd.R_lower ho (below_size (hq HB.out))); have nB_ := Aside0.mk (below_step (hq HB.out) hb); have ng_ := Aside0.mk (IsS36.below (gq Hg.out) hb); clear HB; have HB := nB_; clear nB_; clear Hg; have Hg := ng_; clear ng_; clear hb ho; have HO39 := nO_; clear nO_; have hx1_0 := (HB.out.cell (World.block_lt_of_cell? w _ HX.out)).trans HX.out; have hx2_0 := (HB.out.cell (World.block_lt_of_cell? w _ HX2.out)).trans HX2.out) | ((with_reducible refine gate_builtin (b := .append) (xs := #[.tmp 39, .tmp 43]) rfl ?_); at_builtin; refine Kd.R_append_rows (Kd.int .i64) (w0 := w) w.heap.size rfl (.tmp 39) (.tmp 43) 28 3 (.int .i64 0) 8 rfl Try.underlying28 info3 rfl (by decide) (by omega) v39 y39 y1 _ _ _ (fun _ => True) (fun _ => False) rfl rfl ?aO ?aR (fun _ _ h => h) (fun _ h => h.elim) ?aF ?aB ?aS ?aL ?_; (case aR => exact (Kd.C_below HRy.out HB.out)); (case aB => exact HB.out); (case aF => exact (fun _ _ => trivial)); (case aO => exact HO39.out); (case aS => exact (below_size HB.out)); (case aL => have := LM.out; have := Nly39.out; omega); intro v44 w44 ho hb hg hat; rw [← Ny44.out] at ho; have ng_ := Aside0.mk (IsS36.grown Hg.out hg (IsS36.own_ne Hg.out HO39.out (by decide))); clear HB HO39; have HB := Aside0.mk hb; have HO44 := Aside0.mk ho; clear Hg; have Hg := ng_; clear ng_; clear ho hb hg hat; obtain ⟨Ao44, co44, eo44⟩ := Kd.R_slice HO44.out; subst eo44; have hx1_0 := (HB.out.cell (World.block_lt_of_cell? w _ HX.out)).trans HX.out; have hx2_0 := (HB.out.cell (World.block_lt_of_cell? w _ HX2.out)).trans HX2.out) | ((with_reducible refine gate_callee (f := 7) rfl ?_); refine goesL_ (some 45) rfl rfl Try.func7 (by kernel_rfl) rfl #[.slice Ao44 y44.length co44] rfl (by (try simp only [List.map_toArray, List.map_cons, List.map_nil]); first | done | rfl | (simp only [List.length_drop, List.length_take]; rfl)) ?_; (with_reducible refine (tollbarref1_Sum.calls k1 _ _ y44 b1 false _ ?side1 ?side2 A5.out).mono ?_); (case side1 => exact (Kd.R_reads' HO44.out).2.2); (case side2 => exact (Kd.R_reads' HO44.out).2.1); rintro e wS ⟨rfl, hd⟩; refine ⟨_, rfl, ?_⟩; have hb : Below w44.heap.size w44 wS := (by obtain ⟨nd, hnd⟩ := hd; rw [hnd]; exact pw_below_drewN (Below.refl _ _) _); clear hd; have nB_ := Aside0.mk (below_step (hq HB.out) hb); have ng_ := Aside0.mk (IsS36.below (gq Hg.out) hb); have nHO44_ := Aside0.mk (Kd.R_below (rq HO44.out) hb); clear HB; have HB := nB_; clear nB_; clear Hg; have Hg := ng_; clear ng_; clear HO44; have HO44 := nHO44_; clear nHO44_; clear hb; have hx1_0 := (HB.out.cell (World.block_lt_of_cell? w _ HX.out)).trans HX.out; have hx2_0 := (HB.out.cell (World.block_lt_of_cell? w _ HX2.out)).trans HX2.out; clear HO44) | ((with_reducible refine gate_callee (f := 12) rfl ?_); refine goesL_ (some 67) rfl rfl Try.func12 (by kernel_rfl) rfl #[.pointer (some ⟨gg, 0, none⟩), .slice B1 y1.length e1_] rfl (by (try simp only [List.map_toArray, List.map_cons, List.map_nil]); first | done | rfl | (simp only [List.length_drop, List.length_take]; rfl)) ?_; (with_reducible refine (rate_Gauge_Add.calls m k1 gg s _ _ y1 false s w _ ?side1 ?side2 ?side3 ?side4 ?side5 A6.out).mono ?_); (case side1 => exact gq Hg.out); (case side2 => exact (hq HB.out)); (case side3 => exact Kd.C_below HRy.out (hq HB.out)); (case side4 => exact HCy.out); (case side5 => exact row_far HRy.out (Hg.out).2); rintro e wU ⟨rfl, hi, hb, hk⟩; refine ⟨_, rfl, ?_⟩; clear HB Hg; have HB := Aside0.mk hb; have Hg := Aside0.mk hi; clear hi hb hk) | (go_at_call 9; (with_reducible refine (rate_Meter_Total.callsG m gg s s s w _ ?side1 ?side2 rfl).mono ?_); (case side1 => exact gq Hg.out); (case side2 => exact (hq HB.out)); rintro e wtot ⟨rfl, hi, hb, hk⟩; clear HB Hg; have HB := Aside0.mk hb; have Hg := Aside0.mk hi; clear hi hb hk) | (go_at_call 13; (with_reducible refine (rate_Gauge_Room.calls m gg s _ HRR.out w _ ?side1 ?side2).mono ?_); (case side1 => exact gq Hg.out); (case side2 => exact (hq HB.out)); rintro e wrm ⟨rfl, hi, hb, hk⟩; clear HB Hg; have HB := Aside0.mk hb; have Hg := Aside0.mk hi; clear hi hb hk))
                          go_roundg k1
                          case measure => have := HK1.out; omega
                          case rel => exact ⟨s, (wrap64 (i + 1)), (by first | rfl | (simp; done) | (simp [*]; done)), (by first | rfl | (simp; done) | (simp [*]; done)), H', ⟨by have := HK1.out; omega⟩, ⟨gq Hg.out⟩, ⟨hq HB.out⟩⟩
                  · rw [if_neg c6] at H
                    have c6b0 : ((Int.tmod (rd l2 i) 2) == 0) = false := beq_eq_false_iff_ne.mpr c6
                    clear c6
                    cases b2 with
                    | true =>
                      obtain ⟨⟨a1, a2⟩, A60, H⟩ := Option.bind_eq_some_iff.mp H
                      have A6 := Aside0.mk A60
                      clear A60
                      replace H : (if a1 = true then (if a2 = b1 then (tollbarlaw1_RateGauges.l0 k1 m l1 l2 b1 (wrap64 (i + 1))) else none) else none) = some r := H
                      cases a1 with
                      | false => exact absurd H (by simp)
                      | true =>
                        rw [if_pos rfl] at H
                        have c8 : a2 = b1 := by
                          by_cases q : a2 = b1
                          · exact q
                          · rw [if_neg q] at H; exact absurd H (by simp)
                        rw [if_pos c8] at H
                        replace c8 := c8.symm
                        subst c8
                        have H' := Aside0.mk H
                        clear H
                        have hx1_0 := (HB.out.cell (World.block_lt_of_cell? w _ HX.out)).trans HX.out
                        have hx2_0 := (HB.out.cell (World.block_lt_of_cell? w _ HX2.out)).trans HX2.out
                        by_cases cr : wrap64 (m - b1) < 0
                        · have crb : decide (wrap64 (m - b1) < 0) = true := decide_eq_true cr
                          have HRR := Aside0.mk (tollbarlaw1_RateGauges.room.1 cr)
                          clear cr
                          go_wp2_with (first | ((with_reducible refine gate_dst (N := 39) rfl ?_); refine Kd.R_lit (Kd.int .i64) _ 3 ?hg (N := 39) ?hd (xs := ([s] : List Int)) (inner := [.int .i64 s]) (ok := fun _ => True) (okp := fun _ => True) ?hr ?hp (fun _ hk => hk) trivial (Below.refl _ _) (Nat.le_refl _) (by simp) ?_; (case hd => rfl); (case hg => rfl); (case hr => first | (go_simp; done) | (go_simp; rfl)); (case hp => exact (Reps.one (show Kd.M (Kd.int .i64) _ _ _ s [.int .i64 s] from rfl) (Reps.none _ _))); intro v39 w39 ho hb hg_ hnew_; clear hg_ hnew_; (first | rw [← Ny39.out] at ho | (simp only [Int.reduceToNat] at ho; rw [← Ny39.out] at ho)); have nO_ := Aside0.mk (Kd.R_lower ho (below_size (hq HB.out))); have nB_ := Aside0.mk (below_step (hq HB.out) hb); have ng_ := Aside0.mk (IsS36.below (gq Hg.out) hb); clear HB; have HB := nB_; clear nB_; clear Hg; have Hg := ng_; clear ng_; clear hb ho; have HO39 := nO_; clear nO_; have hx1_0 := (HB.out.cell (World.block_lt_of_cell? w _ HX.out)).trans HX.out; have hx2_0 := (HB.out.cell (World.block_lt_of_cell? w _ HX2.out)).trans HX2.out) | ((with_reducible refine gate_builtin (b := .append) (xs := #[.tmp 39, .tmp 43]) rfl ?_); at_builtin; refine Kd.R_append_rows (Kd.int .i64) (w0 := w) w.heap.size rfl (.tmp 39) (.tmp 43) 28 3 (.int .i64 0) 8 rfl Try.underlying28 info3 rfl (by decide) (by omega) v39 y39 y1 _ _ _ (fun _ => True) (fun _ => False) rfl rfl ?aO ?aR (fun _ _ h => h) (fun _ h => h.elim) ?aF ?aB ?aS ?aL ?_; (case aR => exact (Kd.C_below HRy.out HB.out)); (case aB => exact HB.out); (case aF => exact (fun _ _ => trivial)); (case aO => exact HO39.out); (case aS => exact (below_size HB.out)); (case aL => have := LM.out; have := Nly39.out; omega); intro v44 w44 ho hb hg hat; rw [← Ny44.out] at ho; have ng_ := Aside0.mk (IsS36.grown Hg.out hg (IsS36.own_ne Hg.out HO39.out (by decide))); clear HB HO39; have HB := Aside0.mk hb; have HO44 := Aside0.mk ho; clear Hg; have Hg := ng_; clear ng_; clear ho hb hg hat; obtain ⟨Ao44, co44, eo44⟩ := Kd.R_slice HO44.out; subst eo44; have hx1_0 := (HB.out.cell (World.block_lt_of_cell? w _ HX.out)).trans HX.out; have hx2_0 := (HB.out.cell (World.block_lt_of_cell? w _ HX2.out)).trans HX2.out) | ((with_reducible refine gate_callee (f := 7) rfl ?_); refine goesL_ (some 45) rfl rfl Try.func7 (by kernel_rfl) rfl #[.slice Ao44 y44.length co44] rfl (by (try simp only [List.map_toArray, List.map_cons, List.map_nil]); first | done | rfl | (simp only [List.length_drop, List.length_take]; rfl)) ?_; (with_reducible refine (tollbarref1_Sum.calls k1 _ _ y44 b1 true _ ?side1 ?side2 A5.out).mono ?_); (case side1 => exact (Kd.R_reads' HO44.out).2.2); (case side2 => exact (Kd.R_reads' HO44.out).2.1); rintro e wS ⟨rfl, hd⟩; refine ⟨_, rfl, ?_⟩; have hb : Below w44.heap.size w44 wS := (by obtain ⟨nd, hnd⟩ := hd; rw [hnd]; exact pw_below_drewN (Below.refl _ _) _); clear hd; have nB_ := Aside0.mk (below_step (hq HB.out) hb); have ng_ := Aside0.mk (IsS36.below (gq Hg.out) hb); have nHO44_ := Aside0.mk (Kd.R_below (rq HO44.out) hb); clear HB; have HB := nB_; clear nB_; clear Hg; have Hg := ng_; clear ng_; clear HO44; have HO44 := nHO44_; clear nHO44_; clear hb; have hx1_0 := (HB.out.cell (World.block_lt_of_cell? w _ HX.out)).trans HX.out; have hx2_0 := (HB.out.cell (World.block_lt_of_cell? w _ HX2.out)).trans HX2.out; clear HO44))
                          have n0_ := Aside0.mk (IsS36.drew Hg.out)
                          have n1_ := Aside0.mk (below_drew1 HB.out)
                          clear Hg HB
                          have Hg := n0_
                          have HB := n1_
                          clear n0_ n1_
                          have hx1_0 := (HB.out.cell (World.block_lt_of_cell? w _ HX.out)).trans HX.out
                          refine start_ (n := 9) (S := fun w' => w'.cell? (ad1.add i.toNat) = some (.slice B1 y1.length e1_)) (ds := []) #[false, false, false, false, false, false, false, false, false] (by kernel_rfl) rfl rfl hx1_0 (fun hHeld => ?_)
                          generalize wS.drew = wT at Hg HB hHeld hx1_0 ⊢
                          clear hx1_0
                          refine pure_ (i := 0) (N := some 68) (v := ?_) (a' := ?_) #[true, false, false, false, false, false, false, false, false] rfl rfl (by kernel_rfl) (fun _ _ _ h => h) (Or.inl ⟨by rfl, ?_⟩) ?_ ?_
                          rotate_left
                          · intro w'
                            go_simp
                            with_reducible rfl
                          rotate_left
                          · simp only [Act.put, List.setIfInBounds_toArray, List.set_cons_zero, List.set_cons_succ, i64_w, i32_w]
                            rfl
                          refine pure_ (i := 1) (N := some 69) (v := ?_) (a' := ?_) #[true, true, false, false, false, false, false, false, false] rfl rfl (by kernel_rfl) (fun _ _ _ h => h) (Or.inl ⟨by rfl, ?_⟩) ?_ ?_
                          rotate_left
                          · intro w'
                            go_simp
                            with_reducible rfl
                          rotate_left
                          · simp only [Act.put, List.setIfInBounds_toArray, List.set_cons_zero, List.set_cons_succ, i64_w, i32_w]
                            rfl
                          refine pure_ (i := 2) (N := some 70) (v := ?_) (a' := ?_) #[true, true, true, false, false, false, false, false, false] rfl rfl (by kernel_rfl) (fun _ _ _ h => h) (Or.inl ⟨by rfl, ?_⟩) ?_ ?_
                          rotate_left
                          · intro w'
                            go_simp
                            with_reducible rfl
                          rotate_left
                          · simp only [Act.put, List.setIfInBounds_toArray, List.set_cons_zero, List.set_cons_succ, i64_w, i32_w]
                            rfl
                          refine pure_ (i := 3) (N := some 71) (v := ?_) (a' := ?_) #[true, true, true, true, false, false, false, false, false] rfl rfl (by kernel_rfl) (fun _ _ _ h => h) (Or.inl ⟨by rfl, ?_⟩) ?_ ?_
                          rotate_left
                          · intro w'
                            go_simp
                            with_reducible rfl
                          rotate_left
                          · simp only [Act.put, List.setIfInBounds_toArray, List.set_cons_zero, List.set_cons_succ, i64_w, i32_w]
                            rfl
                          refine pure_ (i := 4) (N := some 72) (v := ?_) (a' := ?_) #[true, true, true, true, true, false, false, false, false] rfl rfl (by kernel_rfl) (fun _ _ _ h => h) (Or.inl ⟨by rfl, ?_⟩) ?_ ?_
                          rotate_left
                          · intro w'
                            go_simp
                            with_reducible rfl
                          rotate_left
                          · simp only [Act.put, List.setIfInBounds_toArray, List.set_cons_zero, List.set_cons_succ, i64_w, i32_w]
                            rfl
                          refine pure_ (i := 5) (N := some 73) (v := ?_) (a' := ?_) #[true, true, true, true, true, true, false, false, false] rfl rfl (by kernel_rfl) (fun _ _ _ h => h) (Or.inl ⟨by rfl, ?_⟩) ?_ ?_
                          rotate_left
                          · intro w'
                            go_simp
                            with_reducible rfl
                          rotate_left
                          · simp only [Act.put, List.setIfInBounds_toArray, List.set_cons_zero, List.set_cons_succ, i64_w, i32_w]
                            rfl
                          refine take_ (i := 6) (N := some 74) (v := ?_) (a' := ?_) #[true, true, true, true, true, true, true, false, false] rfl rfl (by kernel_rfl) (fun _ _ _ h => h) (Or.inl ⟨by rfl, ?_⟩) hHeld ?_ ?_
                          rotate_left
                          · intro w' s1
                            go_simp
                            with_reducible rfl
                          rotate_left
                          · simp only [Act.put, List.setIfInBounds_toArray, List.set_cons_zero, List.set_cons_succ, i64_w, i32_w]
                            rfl
                          refine one_ (i := 7) (N := some 75) #[true, true, true, true, true, true, true, true, false] rfl rfl (by kernel_rfl) (by decide) (fun K hK => ?_)
                          refine goes_ Try.func8 (by kernel_rfl) rfl #[.pointer (some ⟨gg, 0, none⟩), .slice B1 y1.length e1_] (by rfl) rfl rfl (by (try simp only [List.map_toArray, List.map_cons, List.map_nil]); first | done | rfl) ?_
                          with_reducible refine (rate_Meter_Add.callsG m k1 gg s _ _ y1 true b1 w _ ?side1 ?side2 ?side3 ?side4 ?side5 A6.out).mono ?_
                          (case side1 => exact Hg.out)
                          (case side2 => exact HB.out)
                          (case side3 => exact Kd.C_below HRy.out HB.out)
                          (case side4 => exact HCy.out)
                          (case side5 => exact row_far HRy.out (Hg.out).2)
                          rintro e wU ⟨rfl, hi, hb, hk⟩
                          refine ⟨_, rfl, ?_⟩
                          clear HB Hg
                          have HB := Aside0.mk hb
                          have Hg := Aside0.mk hi
                          clear hi hb hk
                          refine hK.out _ _ ((HB.out.cell (World.block_lt_of_cell? w _ HX.out)).trans HX.out) (fun hHeld => ?_)
                          clear hK K
                          refine norm_ (a' := ?_) ?_ ?_
                          rotate_left
                          · show Act.put _ (some 75) _ = _
                            simp only [Act.put, List.setIfInBounds_toArray, List.set_cons_zero, List.set_cons_succ, i64_w, i32_w]
                            rfl
                          refine pure_ (i := 8) (N := some 14) (v := ?_) (a' := ?_) #[true, true, true, true, true, true, true, true, true] rfl rfl (by kernel_rfl) (fun _ _ _ h => h) (Or.inl ⟨by rfl, ?_⟩) ?_ ?_
                          rotate_left
                          · intro w'
                            go_simp
                            with_reducible rfl
                          rotate_left
                          · simp only [Act.put, List.setIfInBounds_toArray, List.set_cons_zero, List.set_cons_succ, i64_w, i32_w]
                            rfl
                          refine done_ (by kernel_rfl) ?_
                          go_wp2_with (first | (go_at_call 9; (with_reducible refine (rate_Meter_Total.callsG m gg b1 b1 b1 w _ ?side1 ?side2 rfl).mono ?_); (case side1 => exact gq Hg.out); (case side2 => exact (hq HB.out)); rintro e wtot ⟨rfl, hi, hb, hk⟩; clear HB Hg; have HB := Aside0.mk hb; have Hg := Aside0.mk hi; clear hi hb hk) | (go_at_call 13; (with_reducible refine (rate_Gauge_Room.calls m gg b1 _ HRR.out w _ ?side1 ?side2).mono ?_); (case side1 => exact gq Hg.out); (case side2 => exact (hq HB.out)); rintro e wrm ⟨rfl, hi, hb, hk⟩; clear HB Hg; have HB := Aside0.mk hb; have Hg := Aside0.mk hi; clear hi hb hk))
                          go_roundg k1
                          case measure => have := HK1.out; omega
                          case rel => exact ⟨b1, (wrap64 (i + 1)), (by first | rfl | (simp; done) | (simp [*]; done)), (by first | rfl | (simp; done) | (simp [*]; done)), H', ⟨by have := HK1.out; omega⟩, ⟨gq Hg.out⟩, ⟨hq HB.out⟩⟩
                        · have crb : decide (wrap64 (m - b1) < 0) = false := decide_eq_false cr
                          have HRR := Aside0.mk (tollbarlaw1_RateGauges.room.2 cr)
                          clear cr
                          go_wp2_with (first | ((with_reducible refine gate_dst (N := 39) rfl ?_); refine Kd.R_lit (Kd.int .i64) _ 3 ?hg (N := 39) ?hd (xs := ([s] : List Int)) (inner := [.int .i64 s]) (ok := fun _ => True) (okp := fun _ => True) ?hr ?hp (fun _ hk => hk) trivial (Below.refl _ _) (Nat.le_refl _) (by simp) ?_; (case hd => rfl); (case hg => rfl); (case hr => first | (go_simp; done) | (go_simp; rfl)); (case hp => exact (Reps.one (show Kd.M (Kd.int .i64) _ _ _ s [.int .i64 s] from rfl) (Reps.none _ _))); intro v39 w39 ho hb hg_ hnew_; clear hg_ hnew_; (first | rw [← Ny39.out] at ho | (simp only [Int.reduceToNat] at ho; rw [← Ny39.out] at ho)); have nO_ := Aside0.mk (Kd.R_lower ho (below_size (hq HB.out))); have nB_ := Aside0.mk (below_step (hq HB.out) hb); have ng_ := Aside0.mk (IsS36.below (gq Hg.out) hb); clear HB; have HB := nB_; clear nB_; clear Hg; have Hg := ng_; clear ng_; clear hb ho; have HO39 := nO_; clear nO_; have hx1_0 := (HB.out.cell (World.block_lt_of_cell? w _ HX.out)).trans HX.out; have hx2_0 := (HB.out.cell (World.block_lt_of_cell? w _ HX2.out)).trans HX2.out) | ((with_reducible refine gate_builtin (b := .append) (xs := #[.tmp 39, .tmp 43]) rfl ?_); at_builtin; refine Kd.R_append_rows (Kd.int .i64) (w0 := w) w.heap.size rfl (.tmp 39) (.tmp 43) 28 3 (.int .i64 0) 8 rfl Try.underlying28 info3 rfl (by decide) (by omega) v39 y39 y1 _ _ _ (fun _ => True) (fun _ => False) rfl rfl ?aO ?aR (fun _ _ h => h) (fun _ h => h.elim) ?aF ?aB ?aS ?aL ?_; (case aR => exact (Kd.C_below HRy.out HB.out)); (case aB => exact HB.out); (case aF => exact (fun _ _ => trivial)); (case aO => exact HO39.out); (case aS => exact (below_size HB.out)); (case aL => have := LM.out; have := Nly39.out; omega); intro v44 w44 ho hb hg hat; rw [← Ny44.out] at ho; have ng_ := Aside0.mk (IsS36.grown Hg.out hg (IsS36.own_ne Hg.out HO39.out (by decide))); clear HB HO39; have HB := Aside0.mk hb; have HO44 := Aside0.mk ho; clear Hg; have Hg := ng_; clear ng_; clear ho hb hg hat; obtain ⟨Ao44, co44, eo44⟩ := Kd.R_slice HO44.out; subst eo44; have hx1_0 := (HB.out.cell (World.block_lt_of_cell? w _ HX.out)).trans HX.out; have hx2_0 := (HB.out.cell (World.block_lt_of_cell? w _ HX2.out)).trans HX2.out) | ((with_reducible refine gate_callee (f := 7) rfl ?_); refine goesL_ (some 45) rfl rfl Try.func7 (by kernel_rfl) rfl #[.slice Ao44 y44.length co44] rfl (by (try simp only [List.map_toArray, List.map_cons, List.map_nil]); first | done | rfl | (simp only [List.length_drop, List.length_take]; rfl)) ?_; (with_reducible refine (tollbarref1_Sum.calls k1 _ _ y44 b1 true _ ?side1 ?side2 A5.out).mono ?_); (case side1 => exact (Kd.R_reads' HO44.out).2.2); (case side2 => exact (Kd.R_reads' HO44.out).2.1); rintro e wS ⟨rfl, hd⟩; refine ⟨_, rfl, ?_⟩; have hb : Below w44.heap.size w44 wS := (by obtain ⟨nd, hnd⟩ := hd; rw [hnd]; exact pw_below_drewN (Below.refl _ _) _); clear hd; have nB_ := Aside0.mk (below_step (hq HB.out) hb); have ng_ := Aside0.mk (IsS36.below (gq Hg.out) hb); have nHO44_ := Aside0.mk (Kd.R_below (rq HO44.out) hb); clear HB; have HB := nB_; clear nB_; clear Hg; have Hg := ng_; clear ng_; clear HO44; have HO44 := nHO44_; clear nHO44_; clear hb; have hx1_0 := (HB.out.cell (World.block_lt_of_cell? w _ HX.out)).trans HX.out; have hx2_0 := (HB.out.cell (World.block_lt_of_cell? w _ HX2.out)).trans HX2.out; clear HO44))
                          have n0_ := Aside0.mk (IsS36.drew Hg.out)
                          have n1_ := Aside0.mk (below_drew1 HB.out)
                          clear Hg HB
                          have Hg := n0_
                          have HB := n1_
                          clear n0_ n1_
                          have hx1_0 := (HB.out.cell (World.block_lt_of_cell? w _ HX.out)).trans HX.out
                          refine start_ (n := 9) (S := fun w' => w'.cell? (ad1.add i.toNat) = some (.slice B1 y1.length e1_)) (ds := []) #[false, false, false, false, false, false, false, false, false] (by kernel_rfl) rfl rfl hx1_0 (fun hHeld => ?_)
                          generalize wS.drew = wT at Hg HB hHeld hx1_0 ⊢
                          clear hx1_0
                          refine pure_ (i := 0) (N := some 68) (v := ?_) (a' := ?_) #[true, false, false, false, false, false, false, false, false] rfl rfl (by kernel_rfl) (fun _ _ _ h => h) (Or.inl ⟨by rfl, ?_⟩) ?_ ?_
                          rotate_left
                          · intro w'
                            go_simp
                            with_reducible rfl
                          rotate_left
                          · simp only [Act.put, List.setIfInBounds_toArray, List.set_cons_zero, List.set_cons_succ, i64_w, i32_w]
                            rfl
                          refine pure_ (i := 1) (N := some 69) (v := ?_) (a' := ?_) #[true, true, false, false, false, false, false, false, false] rfl rfl (by kernel_rfl) (fun _ _ _ h => h) (Or.inl ⟨by rfl, ?_⟩) ?_ ?_
                          rotate_left
                          · intro w'
                            go_simp
                            with_reducible rfl
                          rotate_left
                          · simp only [Act.put, List.setIfInBounds_toArray, List.set_cons_zero, List.set_cons_succ, i64_w, i32_w]
                            rfl
                          refine pure_ (i := 2) (N := some 70) (v := ?_) (a' := ?_) #[true, true, true, false, false, false, false, false, false] rfl rfl (by kernel_rfl) (fun _ _ _ h => h) (Or.inl ⟨by rfl, ?_⟩) ?_ ?_
                          rotate_left
                          · intro w'
                            go_simp
                            with_reducible rfl
                          rotate_left
                          · simp only [Act.put, List.setIfInBounds_toArray, List.set_cons_zero, List.set_cons_succ, i64_w, i32_w]
                            rfl
                          refine pure_ (i := 3) (N := some 71) (v := ?_) (a' := ?_) #[true, true, true, true, false, false, false, false, false] rfl rfl (by kernel_rfl) (fun _ _ _ h => h) (Or.inl ⟨by rfl, ?_⟩) ?_ ?_
                          rotate_left
                          · intro w'
                            go_simp
                            with_reducible rfl
                          rotate_left
                          · simp only [Act.put, List.setIfInBounds_toArray, List.set_cons_zero, List.set_cons_succ, i64_w, i32_w]
                            rfl
                          refine pure_ (i := 4) (N := some 72) (v := ?_) (a' := ?_) #[true, true, true, true, true, false, false, false, false] rfl rfl (by kernel_rfl) (fun _ _ _ h => h) (Or.inl ⟨by rfl, ?_⟩) ?_ ?_
                          rotate_left
                          · intro w'
                            go_simp
                            with_reducible rfl
                          rotate_left
                          · simp only [Act.put, List.setIfInBounds_toArray, List.set_cons_zero, List.set_cons_succ, i64_w, i32_w]
                            rfl
                          refine pure_ (i := 5) (N := some 73) (v := ?_) (a' := ?_) #[true, true, true, true, true, true, false, false, false] rfl rfl (by kernel_rfl) (fun _ _ _ h => h) (Or.inl ⟨by rfl, ?_⟩) ?_ ?_
                          rotate_left
                          · intro w'
                            go_simp
                            with_reducible rfl
                          rotate_left
                          · simp only [Act.put, List.setIfInBounds_toArray, List.set_cons_zero, List.set_cons_succ, i64_w, i32_w]
                            rfl
                          refine take_ (i := 6) (N := some 74) (v := ?_) (a' := ?_) #[true, true, true, true, true, true, true, false, false] rfl rfl (by kernel_rfl) (fun _ _ _ h => h) (Or.inl ⟨by rfl, ?_⟩) hHeld ?_ ?_
                          rotate_left
                          · intro w' s1
                            go_simp
                            with_reducible rfl
                          rotate_left
                          · simp only [Act.put, List.setIfInBounds_toArray, List.set_cons_zero, List.set_cons_succ, i64_w, i32_w]
                            rfl
                          refine one_ (i := 7) (N := some 75) #[true, true, true, true, true, true, true, true, false] rfl rfl (by kernel_rfl) (by decide) (fun K hK => ?_)
                          refine goes_ Try.func8 (by kernel_rfl) rfl #[.pointer (some ⟨gg, 0, none⟩), .slice B1 y1.length e1_] (by rfl) rfl rfl (by (try simp only [List.map_toArray, List.map_cons, List.map_nil]); first | done | rfl) ?_
                          with_reducible refine (rate_Meter_Add.callsG m k1 gg s _ _ y1 true b1 w _ ?side1 ?side2 ?side3 ?side4 ?side5 A6.out).mono ?_
                          (case side1 => exact Hg.out)
                          (case side2 => exact HB.out)
                          (case side3 => exact Kd.C_below HRy.out HB.out)
                          (case side4 => exact HCy.out)
                          (case side5 => exact row_far HRy.out (Hg.out).2)
                          rintro e wU ⟨rfl, hi, hb, hk⟩
                          refine ⟨_, rfl, ?_⟩
                          clear HB Hg
                          have HB := Aside0.mk hb
                          have Hg := Aside0.mk hi
                          clear hi hb hk
                          refine hK.out _ _ ((HB.out.cell (World.block_lt_of_cell? w _ HX.out)).trans HX.out) (fun hHeld => ?_)
                          clear hK K
                          refine norm_ (a' := ?_) ?_ ?_
                          rotate_left
                          · show Act.put _ (some 75) _ = _
                            simp only [Act.put, List.setIfInBounds_toArray, List.set_cons_zero, List.set_cons_succ, i64_w, i32_w]
                            rfl
                          refine pure_ (i := 8) (N := some 14) (v := ?_) (a' := ?_) #[true, true, true, true, true, true, true, true, true] rfl rfl (by kernel_rfl) (fun _ _ _ h => h) (Or.inl ⟨by rfl, ?_⟩) ?_ ?_
                          rotate_left
                          · intro w'
                            go_simp
                            with_reducible rfl
                          rotate_left
                          · simp only [Act.put, List.setIfInBounds_toArray, List.set_cons_zero, List.set_cons_succ, i64_w, i32_w]
                            rfl
                          refine done_ (by kernel_rfl) ?_
                          go_wp2_with (first | (go_at_call 9; (with_reducible refine (rate_Meter_Total.callsG m gg b1 b1 b1 w _ ?side1 ?side2 rfl).mono ?_); (case side1 => exact gq Hg.out); (case side2 => exact (hq HB.out)); rintro e wtot ⟨rfl, hi, hb, hk⟩; clear HB Hg; have HB := Aside0.mk hb; have Hg := Aside0.mk hi; clear hi hb hk) | (go_at_call 13; (with_reducible refine (rate_Gauge_Room.calls m gg b1 _ HRR.out w _ ?side1 ?side2).mono ?_); (case side1 => exact gq Hg.out); (case side2 => exact (hq HB.out)); rintro e wrm ⟨rfl, hi, hb, hk⟩; clear HB Hg; have HB := Aside0.mk hb; have Hg := Aside0.mk hi; clear hi hb hk))
                          go_roundg k1
                          case measure => have := HK1.out; omega
                          case rel => exact ⟨b1, (wrap64 (i + 1)), (by first | rfl | (simp; done) | (simp [*]; done)), (by first | rfl | (simp; done) | (simp [*]; done)), H', ⟨by have := HK1.out; omega⟩, ⟨gq Hg.out⟩, ⟨hq HB.out⟩⟩
                    | false =>
                      obtain ⟨⟨a1, a2⟩, A60, H⟩ := Option.bind_eq_some_iff.mp H
                      have A6 := Aside0.mk A60
                      clear A60
                      replace H : (if a1 = true then none else (if a2 = s then (tollbarlaw1_RateGauges.l0 k1 m l1 l2 s (wrap64 (i + 1))) else none)) = some r := H
                      cases a1 with
                      | true => exact absurd H (by simp)
                      | false =>
                        rw [if_neg (by decide)] at H
                        have c8 : a2 = s := by
                          by_cases q : a2 = s
                          · exact q
                          · rw [if_neg q] at H; exact absurd H (by simp)
                        rw [if_pos c8] at H
                        replace c8 := c8.symm
                        subst c8
                        have H' := Aside0.mk H
                        clear H
                        have hx1_0 := (HB.out.cell (World.block_lt_of_cell? w _ HX.out)).trans HX.out
                        have hx2_0 := (HB.out.cell (World.block_lt_of_cell? w _ HX2.out)).trans HX2.out
                        by_cases cr : wrap64 (m - s) < 0
                        · have crb : decide (wrap64 (m - s) < 0) = true := decide_eq_true cr
                          have HRR := Aside0.mk (tollbarlaw1_RateGauges.room.1 cr)
                          clear cr
                          go_wp2_with (first | ((with_reducible refine gate_dst (N := 39) rfl ?_); refine Kd.R_lit (Kd.int .i64) _ 3 ?hg (N := 39) ?hd (xs := ([s] : List Int)) (inner := [.int .i64 s]) (ok := fun _ => True) (okp := fun _ => True) ?hr ?hp (fun _ hk => hk) trivial (Below.refl _ _) (Nat.le_refl _) (by simp) ?_; (case hd => rfl); (case hg => rfl); (case hr => first | (go_simp; done) | (go_simp; rfl)); (case hp => exact (Reps.one (show Kd.M (Kd.int .i64) _ _ _ s [.int .i64 s] from rfl) (Reps.none _ _))); intro v39 w39 ho hb hg_ hnew_; clear hg_ hnew_; (first | rw [← Ny39.out] at ho | (simp only [Int.reduceToNat] at ho; rw [← Ny39.out] at ho)); have nO_ := Aside0.mk (Kd.R_lower ho (below_size (hq HB.out))); have nB_ := Aside0.mk (below_step (hq HB.out) hb); have ng_ := Aside0.mk (IsS36.below (gq Hg.out) hb); clear HB; have HB := nB_; clear nB_; clear Hg; have Hg := ng_; clear ng_; clear hb ho; have HO39 := nO_; clear nO_; have hx1_0 := (HB.out.cell (World.block_lt_of_cell? w _ HX.out)).trans HX.out; have hx2_0 := (HB.out.cell (World.block_lt_of_cell? w _ HX2.out)).trans HX2.out) | ((with_reducible refine gate_builtin (b := .append) (xs := #[.tmp 39, .tmp 43]) rfl ?_); at_builtin; refine Kd.R_append_rows (Kd.int .i64) (w0 := w) w.heap.size rfl (.tmp 39) (.tmp 43) 28 3 (.int .i64 0) 8 rfl Try.underlying28 info3 rfl (by decide) (by omega) v39 y39 y1 _ _ _ (fun _ => True) (fun _ => False) rfl rfl ?aO ?aR (fun _ _ h => h) (fun _ h => h.elim) ?aF ?aB ?aS ?aL ?_; (case aR => exact (Kd.C_below HRy.out HB.out)); (case aB => exact HB.out); (case aF => exact (fun _ _ => trivial)); (case aO => exact HO39.out); (case aS => exact (below_size HB.out)); (case aL => have := LM.out; have := Nly39.out; omega); intro v44 w44 ho hb hg hat; rw [← Ny44.out] at ho; have ng_ := Aside0.mk (IsS36.grown Hg.out hg (IsS36.own_ne Hg.out HO39.out (by decide))); clear HB HO39; have HB := Aside0.mk hb; have HO44 := Aside0.mk ho; clear Hg; have Hg := ng_; clear ng_; clear ho hb hg hat; obtain ⟨Ao44, co44, eo44⟩ := Kd.R_slice HO44.out; subst eo44; have hx1_0 := (HB.out.cell (World.block_lt_of_cell? w _ HX.out)).trans HX.out; have hx2_0 := (HB.out.cell (World.block_lt_of_cell? w _ HX2.out)).trans HX2.out) | ((with_reducible refine gate_callee (f := 7) rfl ?_); refine goesL_ (some 45) rfl rfl Try.func7 (by kernel_rfl) rfl #[.slice Ao44 y44.length co44] rfl (by (try simp only [List.map_toArray, List.map_cons, List.map_nil]); first | done | rfl | (simp only [List.length_drop, List.length_take]; rfl)) ?_; (with_reducible refine (tollbarref1_Sum.calls k1 _ _ y44 b1 false _ ?side1 ?side2 A5.out).mono ?_); (case side1 => exact (Kd.R_reads' HO44.out).2.2); (case side2 => exact (Kd.R_reads' HO44.out).2.1); rintro e wS ⟨rfl, hd⟩; refine ⟨_, rfl, ?_⟩; have hb : Below w44.heap.size w44 wS := (by obtain ⟨nd, hnd⟩ := hd; rw [hnd]; exact pw_below_drewN (Below.refl _ _) _); clear hd; have nB_ := Aside0.mk (below_step (hq HB.out) hb); have ng_ := Aside0.mk (IsS36.below (gq Hg.out) hb); have nHO44_ := Aside0.mk (Kd.R_below (rq HO44.out) hb); clear HB; have HB := nB_; clear nB_; clear Hg; have Hg := ng_; clear ng_; clear HO44; have HO44 := nHO44_; clear nHO44_; clear hb; have hx1_0 := (HB.out.cell (World.block_lt_of_cell? w _ HX.out)).trans HX.out; have hx2_0 := (HB.out.cell (World.block_lt_of_cell? w _ HX2.out)).trans HX2.out; clear HO44))
                          have n0_ := Aside0.mk (IsS36.drew Hg.out)
                          have n1_ := Aside0.mk (below_drew1 HB.out)
                          clear Hg HB
                          have Hg := n0_
                          have HB := n1_
                          clear n0_ n1_
                          have hx1_0 := (HB.out.cell (World.block_lt_of_cell? w _ HX.out)).trans HX.out
                          refine start_ (n := 9) (S := fun w' => w'.cell? (ad1.add i.toNat) = some (.slice B1 y1.length e1_)) (ds := []) #[false, false, false, false, false, false, false, false, false] (by kernel_rfl) rfl rfl hx1_0 (fun hHeld => ?_)
                          generalize wS.drew = wT at Hg HB hHeld hx1_0 ⊢
                          clear hx1_0
                          refine pure_ (i := 0) (N := some 68) (v := ?_) (a' := ?_) #[true, false, false, false, false, false, false, false, false] rfl rfl (by kernel_rfl) (fun _ _ _ h => h) (Or.inl ⟨by rfl, ?_⟩) ?_ ?_
                          rotate_left
                          · intro w'
                            go_simp
                            with_reducible rfl
                          rotate_left
                          · simp only [Act.put, List.setIfInBounds_toArray, List.set_cons_zero, List.set_cons_succ, i64_w, i32_w]
                            rfl
                          refine pure_ (i := 1) (N := some 69) (v := ?_) (a' := ?_) #[true, true, false, false, false, false, false, false, false] rfl rfl (by kernel_rfl) (fun _ _ _ h => h) (Or.inl ⟨by rfl, ?_⟩) ?_ ?_
                          rotate_left
                          · intro w'
                            go_simp
                            with_reducible rfl
                          rotate_left
                          · simp only [Act.put, List.setIfInBounds_toArray, List.set_cons_zero, List.set_cons_succ, i64_w, i32_w]
                            rfl
                          refine pure_ (i := 2) (N := some 70) (v := ?_) (a' := ?_) #[true, true, true, false, false, false, false, false, false] rfl rfl (by kernel_rfl) (fun _ _ _ h => h) (Or.inl ⟨by rfl, ?_⟩) ?_ ?_
                          rotate_left
                          · intro w'
                            go_simp
                            with_reducible rfl
                          rotate_left
                          · simp only [Act.put, List.setIfInBounds_toArray, List.set_cons_zero, List.set_cons_succ, i64_w, i32_w]
                            rfl
                          refine pure_ (i := 3) (N := some 71) (v := ?_) (a' := ?_) #[true, true, true, true, false, false, false, false, false] rfl rfl (by kernel_rfl) (fun _ _ _ h => h) (Or.inl ⟨by rfl, ?_⟩) ?_ ?_
                          rotate_left
                          · intro w'
                            go_simp
                            with_reducible rfl
                          rotate_left
                          · simp only [Act.put, List.setIfInBounds_toArray, List.set_cons_zero, List.set_cons_succ, i64_w, i32_w]
                            rfl
                          refine pure_ (i := 4) (N := some 72) (v := ?_) (a' := ?_) #[true, true, true, true, true, false, false, false, false] rfl rfl (by kernel_rfl) (fun _ _ _ h => h) (Or.inl ⟨by rfl, ?_⟩) ?_ ?_
                          rotate_left
                          · intro w'
                            go_simp
                            with_reducible rfl
                          rotate_left
                          · simp only [Act.put, List.setIfInBounds_toArray, List.set_cons_zero, List.set_cons_succ, i64_w, i32_w]
                            rfl
                          refine pure_ (i := 5) (N := some 73) (v := ?_) (a' := ?_) #[true, true, true, true, true, true, false, false, false] rfl rfl (by kernel_rfl) (fun _ _ _ h => h) (Or.inl ⟨by rfl, ?_⟩) ?_ ?_
                          rotate_left
                          · intro w'
                            go_simp
                            with_reducible rfl
                          rotate_left
                          · simp only [Act.put, List.setIfInBounds_toArray, List.set_cons_zero, List.set_cons_succ, i64_w, i32_w]
                            rfl
                          refine take_ (i := 6) (N := some 74) (v := ?_) (a' := ?_) #[true, true, true, true, true, true, true, false, false] rfl rfl (by kernel_rfl) (fun _ _ _ h => h) (Or.inl ⟨by rfl, ?_⟩) hHeld ?_ ?_
                          rotate_left
                          · intro w' s1
                            go_simp
                            with_reducible rfl
                          rotate_left
                          · simp only [Act.put, List.setIfInBounds_toArray, List.set_cons_zero, List.set_cons_succ, i64_w, i32_w]
                            rfl
                          refine one_ (i := 7) (N := some 75) #[true, true, true, true, true, true, true, true, false] rfl rfl (by kernel_rfl) (by decide) (fun K hK => ?_)
                          refine goes_ Try.func8 (by kernel_rfl) rfl #[.pointer (some ⟨gg, 0, none⟩), .slice B1 y1.length e1_] (by rfl) rfl rfl (by (try simp only [List.map_toArray, List.map_cons, List.map_nil]); first | done | rfl) ?_
                          with_reducible refine (rate_Meter_Add.callsG m k1 gg s _ _ y1 false s w _ ?side1 ?side2 ?side3 ?side4 ?side5 A6.out).mono ?_
                          (case side1 => exact Hg.out)
                          (case side2 => exact HB.out)
                          (case side3 => exact Kd.C_below HRy.out HB.out)
                          (case side4 => exact HCy.out)
                          (case side5 => exact row_far HRy.out (Hg.out).2)
                          rintro e wU ⟨rfl, hi, hb, hk⟩
                          refine ⟨_, rfl, ?_⟩
                          clear HB Hg
                          have HB := Aside0.mk hb
                          have Hg := Aside0.mk hi
                          clear hi hb hk
                          refine hK.out _ _ ((HB.out.cell (World.block_lt_of_cell? w _ HX.out)).trans HX.out) (fun hHeld => ?_)
                          clear hK K
                          refine norm_ (a' := ?_) ?_ ?_
                          rotate_left
                          · show Act.put _ (some 75) _ = _
                            simp only [Act.put, List.setIfInBounds_toArray, List.set_cons_zero, List.set_cons_succ, i64_w, i32_w]
                            rfl
                          refine pure_ (i := 8) (N := some 14) (v := ?_) (a' := ?_) #[true, true, true, true, true, true, true, true, true] rfl rfl (by kernel_rfl) (fun _ _ _ h => h) (Or.inl ⟨by rfl, ?_⟩) ?_ ?_
                          rotate_left
                          · intro w'
                            go_simp
                            with_reducible rfl
                          rotate_left
                          · simp only [Act.put, List.setIfInBounds_toArray, List.set_cons_zero, List.set_cons_succ, i64_w, i32_w]
                            rfl
                          refine done_ (by kernel_rfl) ?_
                          go_wp2_with (first | (go_at_call 9; (with_reducible refine (rate_Meter_Total.callsG m gg s s s w _ ?side1 ?side2 rfl).mono ?_); (case side1 => exact gq Hg.out); (case side2 => exact (hq HB.out)); rintro e wtot ⟨rfl, hi, hb, hk⟩; clear HB Hg; have HB := Aside0.mk hb; have Hg := Aside0.mk hi; clear hi hb hk) | (go_at_call 13; (with_reducible refine (rate_Gauge_Room.calls m gg s _ HRR.out w _ ?side1 ?side2).mono ?_); (case side1 => exact gq Hg.out); (case side2 => exact (hq HB.out)); rintro e wrm ⟨rfl, hi, hb, hk⟩; clear HB Hg; have HB := Aside0.mk hb; have Hg := Aside0.mk hi; clear hi hb hk))
                          go_roundg k1
                          case measure => have := HK1.out; omega
                          case rel => exact ⟨s, (wrap64 (i + 1)), (by first | rfl | (simp; done) | (simp [*]; done)), (by first | rfl | (simp; done) | (simp [*]; done)), H', ⟨by have := HK1.out; omega⟩, ⟨gq Hg.out⟩, ⟨hq HB.out⟩⟩
                        · have crb : decide (wrap64 (m - s) < 0) = false := decide_eq_false cr
                          have HRR := Aside0.mk (tollbarlaw1_RateGauges.room.2 cr)
                          clear cr
                          go_wp2_with (first | ((with_reducible refine gate_dst (N := 39) rfl ?_); refine Kd.R_lit (Kd.int .i64) _ 3 ?hg (N := 39) ?hd (xs := ([s] : List Int)) (inner := [.int .i64 s]) (ok := fun _ => True) (okp := fun _ => True) ?hr ?hp (fun _ hk => hk) trivial (Below.refl _ _) (Nat.le_refl _) (by simp) ?_; (case hd => rfl); (case hg => rfl); (case hr => first | (go_simp; done) | (go_simp; rfl)); (case hp => exact (Reps.one (show Kd.M (Kd.int .i64) _ _ _ s [.int .i64 s] from rfl) (Reps.none _ _))); intro v39 w39 ho hb hg_ hnew_; clear hg_ hnew_; (first | rw [← Ny39.out] at ho | (simp only [Int.reduceToNat] at ho; rw [← Ny39.out] at ho)); have nO_ := Aside0.mk (Kd.R_lower ho (below_size (hq HB.out))); have nB_ := Aside0.mk (below_step (hq HB.out) hb); have ng_ := Aside0.mk (IsS36.below (gq Hg.out) hb); clear HB; have HB := nB_; clear nB_; clear Hg; have Hg := ng_; clear ng_; clear hb ho; have HO39 := nO_; clear nO_; have hx1_0 := (HB.out.cell (World.block_lt_of_cell? w _ HX.out)).trans HX.out; have hx2_0 := (HB.out.cell (World.block_lt_of_cell? w _ HX2.out)).trans HX2.out) | ((with_reducible refine gate_builtin (b := .append) (xs := #[.tmp 39, .tmp 43]) rfl ?_); at_builtin; refine Kd.R_append_rows (Kd.int .i64) (w0 := w) w.heap.size rfl (.tmp 39) (.tmp 43) 28 3 (.int .i64 0) 8 rfl Try.underlying28 info3 rfl (by decide) (by omega) v39 y39 y1 _ _ _ (fun _ => True) (fun _ => False) rfl rfl ?aO ?aR (fun _ _ h => h) (fun _ h => h.elim) ?aF ?aB ?aS ?aL ?_; (case aR => exact (Kd.C_below HRy.out HB.out)); (case aB => exact HB.out); (case aF => exact (fun _ _ => trivial)); (case aO => exact HO39.out); (case aS => exact (below_size HB.out)); (case aL => have := LM.out; have := Nly39.out; omega); intro v44 w44 ho hb hg hat; rw [← Ny44.out] at ho; have ng_ := Aside0.mk (IsS36.grown Hg.out hg (IsS36.own_ne Hg.out HO39.out (by decide))); clear HB HO39; have HB := Aside0.mk hb; have HO44 := Aside0.mk ho; clear Hg; have Hg := ng_; clear ng_; clear ho hb hg hat; obtain ⟨Ao44, co44, eo44⟩ := Kd.R_slice HO44.out; subst eo44; have hx1_0 := (HB.out.cell (World.block_lt_of_cell? w _ HX.out)).trans HX.out; have hx2_0 := (HB.out.cell (World.block_lt_of_cell? w _ HX2.out)).trans HX2.out) | ((with_reducible refine gate_callee (f := 7) rfl ?_); refine goesL_ (some 45) rfl rfl Try.func7 (by kernel_rfl) rfl #[.slice Ao44 y44.length co44] rfl (by (try simp only [List.map_toArray, List.map_cons, List.map_nil]); first | done | rfl | (simp only [List.length_drop, List.length_take]; rfl)) ?_; (with_reducible refine (tollbarref1_Sum.calls k1 _ _ y44 b1 false _ ?side1 ?side2 A5.out).mono ?_); (case side1 => exact (Kd.R_reads' HO44.out).2.2); (case side2 => exact (Kd.R_reads' HO44.out).2.1); rintro e wS ⟨rfl, hd⟩; refine ⟨_, rfl, ?_⟩; have hb : Below w44.heap.size w44 wS := (by obtain ⟨nd, hnd⟩ := hd; rw [hnd]; exact pw_below_drewN (Below.refl _ _) _); clear hd; have nB_ := Aside0.mk (below_step (hq HB.out) hb); have ng_ := Aside0.mk (IsS36.below (gq Hg.out) hb); have nHO44_ := Aside0.mk (Kd.R_below (rq HO44.out) hb); clear HB; have HB := nB_; clear nB_; clear Hg; have Hg := ng_; clear ng_; clear HO44; have HO44 := nHO44_; clear nHO44_; clear hb; have hx1_0 := (HB.out.cell (World.block_lt_of_cell? w _ HX.out)).trans HX.out; have hx2_0 := (HB.out.cell (World.block_lt_of_cell? w _ HX2.out)).trans HX2.out; clear HO44))
                          have n0_ := Aside0.mk (IsS36.drew Hg.out)
                          have n1_ := Aside0.mk (below_drew1 HB.out)
                          clear Hg HB
                          have Hg := n0_
                          have HB := n1_
                          clear n0_ n1_
                          have hx1_0 := (HB.out.cell (World.block_lt_of_cell? w _ HX.out)).trans HX.out
                          refine start_ (n := 9) (S := fun w' => w'.cell? (ad1.add i.toNat) = some (.slice B1 y1.length e1_)) (ds := []) #[false, false, false, false, false, false, false, false, false] (by kernel_rfl) rfl rfl hx1_0 (fun hHeld => ?_)
                          generalize wS.drew = wT at Hg HB hHeld hx1_0 ⊢
                          clear hx1_0
                          refine pure_ (i := 0) (N := some 68) (v := ?_) (a' := ?_) #[true, false, false, false, false, false, false, false, false] rfl rfl (by kernel_rfl) (fun _ _ _ h => h) (Or.inl ⟨by rfl, ?_⟩) ?_ ?_
                          rotate_left
                          · intro w'
                            go_simp
                            with_reducible rfl
                          rotate_left
                          · simp only [Act.put, List.setIfInBounds_toArray, List.set_cons_zero, List.set_cons_succ, i64_w, i32_w]
                            rfl
                          refine pure_ (i := 1) (N := some 69) (v := ?_) (a' := ?_) #[true, true, false, false, false, false, false, false, false] rfl rfl (by kernel_rfl) (fun _ _ _ h => h) (Or.inl ⟨by rfl, ?_⟩) ?_ ?_
                          rotate_left
                          · intro w'
                            go_simp
                            with_reducible rfl
                          rotate_left
                          · simp only [Act.put, List.setIfInBounds_toArray, List.set_cons_zero, List.set_cons_succ, i64_w, i32_w]
                            rfl
                          refine pure_ (i := 2) (N := some 70) (v := ?_) (a' := ?_) #[true, true, true, false, false, false, false, false, false] rfl rfl (by kernel_rfl) (fun _ _ _ h => h) (Or.inl ⟨by rfl, ?_⟩) ?_ ?_
                          rotate_left
                          · intro w'
                            go_simp
                            with_reducible rfl
                          rotate_left
                          · simp only [Act.put, List.setIfInBounds_toArray, List.set_cons_zero, List.set_cons_succ, i64_w, i32_w]
                            rfl
                          refine pure_ (i := 3) (N := some 71) (v := ?_) (a' := ?_) #[true, true, true, true, false, false, false, false, false] rfl rfl (by kernel_rfl) (fun _ _ _ h => h) (Or.inl ⟨by rfl, ?_⟩) ?_ ?_
                          rotate_left
                          · intro w'
                            go_simp
                            with_reducible rfl
                          rotate_left
                          · simp only [Act.put, List.setIfInBounds_toArray, List.set_cons_zero, List.set_cons_succ, i64_w, i32_w]
                            rfl
                          refine pure_ (i := 4) (N := some 72) (v := ?_) (a' := ?_) #[true, true, true, true, true, false, false, false, false] rfl rfl (by kernel_rfl) (fun _ _ _ h => h) (Or.inl ⟨by rfl, ?_⟩) ?_ ?_
                          rotate_left
                          · intro w'
                            go_simp
                            with_reducible rfl
                          rotate_left
                          · simp only [Act.put, List.setIfInBounds_toArray, List.set_cons_zero, List.set_cons_succ, i64_w, i32_w]
                            rfl
                          refine pure_ (i := 5) (N := some 73) (v := ?_) (a' := ?_) #[true, true, true, true, true, true, false, false, false] rfl rfl (by kernel_rfl) (fun _ _ _ h => h) (Or.inl ⟨by rfl, ?_⟩) ?_ ?_
                          rotate_left
                          · intro w'
                            go_simp
                            with_reducible rfl
                          rotate_left
                          · simp only [Act.put, List.setIfInBounds_toArray, List.set_cons_zero, List.set_cons_succ, i64_w, i32_w]
                            rfl
                          refine take_ (i := 6) (N := some 74) (v := ?_) (a' := ?_) #[true, true, true, true, true, true, true, false, false] rfl rfl (by kernel_rfl) (fun _ _ _ h => h) (Or.inl ⟨by rfl, ?_⟩) hHeld ?_ ?_
                          rotate_left
                          · intro w' s1
                            go_simp
                            with_reducible rfl
                          rotate_left
                          · simp only [Act.put, List.setIfInBounds_toArray, List.set_cons_zero, List.set_cons_succ, i64_w, i32_w]
                            rfl
                          refine one_ (i := 7) (N := some 75) #[true, true, true, true, true, true, true, true, false] rfl rfl (by kernel_rfl) (by decide) (fun K hK => ?_)
                          refine goes_ Try.func8 (by kernel_rfl) rfl #[.pointer (some ⟨gg, 0, none⟩), .slice B1 y1.length e1_] (by rfl) rfl rfl (by (try simp only [List.map_toArray, List.map_cons, List.map_nil]); first | done | rfl) ?_
                          with_reducible refine (rate_Meter_Add.callsG m k1 gg s _ _ y1 false s w _ ?side1 ?side2 ?side3 ?side4 ?side5 A6.out).mono ?_
                          (case side1 => exact Hg.out)
                          (case side2 => exact HB.out)
                          (case side3 => exact Kd.C_below HRy.out HB.out)
                          (case side4 => exact HCy.out)
                          (case side5 => exact row_far HRy.out (Hg.out).2)
                          rintro e wU ⟨rfl, hi, hb, hk⟩
                          refine ⟨_, rfl, ?_⟩
                          clear HB Hg
                          have HB := Aside0.mk hb
                          have Hg := Aside0.mk hi
                          clear hi hb hk
                          refine hK.out _ _ ((HB.out.cell (World.block_lt_of_cell? w _ HX.out)).trans HX.out) (fun hHeld => ?_)
                          clear hK K
                          refine norm_ (a' := ?_) ?_ ?_
                          rotate_left
                          · show Act.put _ (some 75) _ = _
                            simp only [Act.put, List.setIfInBounds_toArray, List.set_cons_zero, List.set_cons_succ, i64_w, i32_w]
                            rfl
                          refine pure_ (i := 8) (N := some 14) (v := ?_) (a' := ?_) #[true, true, true, true, true, true, true, true, true] rfl rfl (by kernel_rfl) (fun _ _ _ h => h) (Or.inl ⟨by rfl, ?_⟩) ?_ ?_
                          rotate_left
                          · intro w'
                            go_simp
                            with_reducible rfl
                          rotate_left
                          · simp only [Act.put, List.setIfInBounds_toArray, List.set_cons_zero, List.set_cons_succ, i64_w, i32_w]
                            rfl
                          refine done_ (by kernel_rfl) ?_
                          go_wp2_with (first | (go_at_call 9; (with_reducible refine (rate_Meter_Total.callsG m gg s s s w _ ?side1 ?side2 rfl).mono ?_); (case side1 => exact gq Hg.out); (case side2 => exact (hq HB.out)); rintro e wtot ⟨rfl, hi, hb, hk⟩; clear HB Hg; have HB := Aside0.mk hb; have Hg := Aside0.mk hi; clear hi hb hk) | (go_at_call 13; (with_reducible refine (rate_Gauge_Room.calls m gg s _ HRR.out w _ ?side1 ?side2).mono ?_); (case side1 => exact gq Hg.out); (case side2 => exact (hq HB.out)); rintro e wrm ⟨rfl, hi, hb, hk⟩; clear HB Hg; have HB := Aside0.mk hb; have Hg := Aside0.mk hi; clear hi hb hk))
                          go_roundg k1
                          case measure => have := HK1.out; omega
                          case rel => exact ⟨s, (wrap64 (i + 1)), (by first | rfl | (simp; done) | (simp [*]; done)), (by first | rfl | (simp; done) | (simp [*]; done)), H', ⟨by have := HK1.out; omega⟩, ⟨gq Hg.out⟩, ⟨hq HB.out⟩⟩
                · rw [if_neg c5] at H
                  exact absurd H (by simp)
              · rw [if_neg c4] at H
                exact absurd H (by simp)
            · rw [if_neg c3] at H
              have c3b0 : decide (i < (l2.length : Int)) = false := decide_eq_false c3
              clear c3
              obtain rfl := Option.some.inj H
              clear H
              go_wp2_with (first | ((with_reducible refine gate_callee (f := 10) rfl ?_); refine goesL_ (some 108) rfl rfl Try.func10 (by kernel_rfl) rfl #[] rfl (by (try simp only [List.map_toArray, List.map_cons, List.map_nil]); first | done | rfl | (simp only [List.length_drop, List.length_take]; rfl)) ?_; (with_reducible refine (tollbarlaw1_awake.calls true _ rfl).mono ?_); rintro e waw ⟨rfl, hb⟩; refine ⟨_, rfl, ?_⟩; have nB_ := Aside0.mk (below_step (hq HB.out) hb); have ng_ := Aside0.mk (IsS36.below (gq Hg.out) hb); clear HB; have HB := nB_; clear nB_; clear Hg; have Hg := ng_; clear ng_; clear hb))
              go_ret
              exact ⟨(by first | rfl | (simp; done) | (simp [*]; done)), (hq HB.out)⟩
          · rw [if_neg c2] at H
            have c2b0 : decide (i < (l1.length : Int)) = false := decide_eq_false c2
            clear c2
            obtain rfl := Option.some.inj H
            clear H
            go_wp2_with (first | ((with_reducible refine gate_callee (f := 10) rfl ?_); refine goesL_ (some 108) rfl rfl Try.func10 (by kernel_rfl) rfl #[] rfl (by (try simp only [List.map_toArray, List.map_cons, List.map_nil]); first | done | rfl | (simp only [List.length_drop, List.length_take]; rfl)) ?_; (with_reducible refine (tollbarlaw1_awake.calls true _ rfl).mono ?_); rintro e waw ⟨rfl, hb⟩; refine ⟨_, rfl, ?_⟩; have nB_ := Aside0.mk (below_step (hq HB.out) hb); have ng_ := Aside0.mk (IsS36.below (gq Hg.out) hb); clear HB; have HB := nB_; clear nB_; clear Hg; have Hg := ng_; clear ng_; clear hb))
            go_ret
            exact ⟨(by first | rfl | (simp; done) | (simp [*]; done)), (hq HB.out)⟩
end Go.Proofs.Ytfdabjanjfehbaa.PAll
end
