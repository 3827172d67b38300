/- Texts of this claim, one behind the other: F3. -/
import Derived.Test.YtfdabjanjfehbaaA08f3d0
section
namespace Go.Proofs.Ytfdabjanjfehbaa.PAll
open Go.RowKit Go.Proofs.YtfdabjanjfehbaaW.PrintWords Go.Proofs.YtfdabjanjfehbaaW.PrintLast Go.Proofs.YtfdabjanjfehbaaW.PrintMore
attribute [local go_sem] max2_int min2_int max_two min_two max_three min_three max_four min_four   -- for this text's walks alone
set_option linter.unusedVariables false
set_option linter.unusedSimpArgs false
set_option maxHeartbeats 8000000
set_option maxRecDepth 100000
def tollbarlaw1_RateMeters.l0 : Nat → List (List Int) → Int → Int → Option Bool
  | 0, _, _, _ => none
  | k + 1, xs, s, i => if i < (xs.length : Int) then (if 0 ≤ i then (if (rowAt xs i).length + 1 < 17592186044416 then ((tollbarref1_Sum.f k ([s] ++ rowAt xs i)).bind fun b => ((rate_Meter_Add.f k s (rowAt xs i)).bind fun a => (if b.2 = true then (if a.1 = true then (if a.2 = b.1 then (tollbarlaw1_RateMeters.l0 k xs a.2 (wrap64 (i + 1))) else none) else none) else (if a.1 = true then none else (if a.2 = s then (tollbarlaw1_RateMeters.l0 k xs s (wrap64 (i + 1))) else none))))) else none) else none) else some true
def tollbarlaw1_RateMeters.f (k : Nat) (l0 : List (List Int)) : Option Bool := tollbarlaw1_RateMeters.l0 k l0 0 0
theorem tollbarlaw1_RateMeters.calls (k : Nat) (A0 : Option Addr) (c0 : Nat) (l0 : List (List Int)) (r : Bool) (w : World) (hr0 : Kd.C (Kd.slice 3 (Kd.int .i64)) w A0 l0.length l0) (hc0 : l0.length ≤ c0) (h : tollbarlaw1_RateMeters.f k l0 = some r) :
    Calls Try.prog 3 #[.slice A0 l0.length c0] w fun e w' => e = .returned (.bool r) ∧ Below w.heap.size w w' := by
  have hu25 := Try.underlying25
  have HR0 := Aside0.mk hr0
  have HC0 := Aside0.mk hc0
  clear hr0 hc0
  have HB := Aside0.mk (Below.refl w.heap.size w)
  have H : tollbarlaw1_RateMeters.l0 k l0 0 0 = some r := h
  clear h
  have H' := Aside0.mk H
  clear H
  go_enter Try.func3, Try.ntmps3
  go_wp2_with (first | ((with_reducible refine gate_dst (N := 9) rfl ?_); refine box_event ?hg (N := 9) ?hd (cs := #[.int .i64 0]) (t := 25) ?hr ?_; (case hd => rfl); (case hg => rfl); (case hr => first | (go_simp; done) | (go_simp; rfl)); intro ga hg wbox hbox hb; have nN_ := Aside0.mk (show IsS25 w _ ga 0 from ⟨hbox, by rw [hg]; exact (below_size (hq HB.out))⟩); have nB_ := Aside0.mk (below_step (hq HB.out) hb); clear HB; have HB := nB_; clear nB_; clear hb hbox hg; have Ha := nN_; clear nN_))
  go_loopg [4, 5, 6, 7] k (fun kq v4 v5 v6 v7 w' => ∃ (s i : Int), v4 = .int .i64 s ∧ v5 = .int .i64 i ∧ Aside0 (tollbarlaw1_RateMeters.l0 kq l0 s i = some r) ∧ Aside0 (kq ≤ k) ∧ Aside0 (IsS25 w w' ga s) ∧ Aside0 (Below w.heap.size w w'))
  case atStart => exact ⟨0, 0, (by first | rfl | (simp; done) | (simp [*]; done)), (by first | rfl | (simp; done) | (simp [*]; done)), H', ⟨Nat.le_refl _⟩, ⟨mq Ha.out⟩, ⟨hq HB.out⟩⟩
  case round =>
    clear H' Ha HB
    obtain ⟨s, i, rfl, rfl, HA, HK1, Ha, HB⟩ := hrel
    cases gk with
    | zero => exact absurd HA.out (by simp [tollbarlaw1_RateMeters.l0])
    | succ k1 =>
      have H := HA.out
      clear HA
      simp only [tollbarlaw1_RateMeters.l0] at H
      by_cases c2 : i < (l0.length : Int)
      · rw [if_pos c2] at H
        have c2b0 : decide (i < (l0.length : Int)) = true := decide_eq_true c2
        clear c2
        by_cases c3 : 0 ≤ i
        · rw [if_pos c3] at H
          have c3b0 : decide (0 ≤ i) = true := decide_eq_true c3
          clear c3
          have p1 : 0 ≤ (i : Int) := of_decide_eq_true (by first | (with_reducible assumption) | assumption)
          have q1 : i < (l0.length : Int) := of_decide_eq_true (by first | (with_reducible assumption) | assumption)
          obtain ⟨ad1, A1, c1, e1, hx1_0, hc1, hC1⟩ := at_rows HR0.out i p1 q1
          cases e1
          obtain ⟨y1, hy1⟩ : ∃ y_ : List Int, y_ = rowAt l0 i := ⟨_, rfl⟩
          rw [← hy1] at hx1_0 hc1 hC1 H
          clear hy1
          have HX := Aside0.mk hx1_0
          have HC1 := Aside0.mk hc1
          have HR1 := Aside0.mk hC1
          clear hx1_0 hc1 hC1
          replace p1 := eq_true p1
          replace q1 := eq_true q1
          by_cases c4 : y1.length + 1 < 17592186044416
          · rw [if_pos c4] at H
            have LM := Aside0.mk c4
            clear c4
            obtain ⟨y18, hy18⟩ : ∃ y_ : List Int, y_ = ([s] : List Int) := ⟨_, rfl⟩
            rw [← hy18] at H
            have Nly18 := Aside0.mk (show y18.length = 1 by rw [hy18]; rfl)
            have Ny18 := Aside0.mk hy18
            clear hy18
            obtain ⟨y23, hy23⟩ : ∃ y_ : List Int, y_ = y18 ++ y1 := ⟨_, rfl⟩
            rw [← hy23] at H
            have Ny23 := Aside0.mk hy23
            clear hy23
            replace H := Option.bind_eq_some_iff.mp H
            obtain ⟨⟨b1, b2⟩, A50, H⟩ := H
            have A5 := Aside0.mk A50
            clear A50
            replace H := Option.bind_eq_some_iff.mp H
            obtain ⟨⟨a1, a2⟩, A60, H⟩ := H
            have A6 := Aside0.mk A60
            clear A60
            by_cases cb : b2 = true
            · subst cb
              replace H : (if a1 = true then (if a2 = b1 then (tollbarlaw1_RateMeters.l0 k1 l0 a2 (wrap64 (i + 1))) else none) else none) = some r := H
              cases a1 with
              | false => exact absurd H (by simp)
              | true =>
                rw [if_pos rfl] at H
                have c8 : a2 = b1 := by
                  by_cases q : a2 = b1
                  · exact q
                  · rw [if_neg q] at H; exact absurd H (by simp)
                rw [if_pos c8] at H
                replace c8 := c8.symm
                subst c8
                have H' := Aside0.mk H
                clear H
                have hx1_0 := (HB.out.cell (World.block_lt_of_cell? w _ HX.out)).trans HX.out
                go_wp2_with (first | ((with_reducible refine gate_dst (N := 18) rfl ?_); refine Kd.R_lit (Kd.int .i64) _ 3 ?hg (N := 18) ?hd (xs := ([s] : List Int)) (inner := [.int .i64 s]) (ok := fun _ => True) (okp := fun _ => True) ?hr ?hp (fun _ hk => hk) trivial (Below.refl _ _) (Nat.le_refl _) (by simp) ?_; (case hd => rfl); (case hg => rfl); (case hr => first | (go_simp; done) | (go_simp; rfl)); (case hp => exact (Reps.one (show Kd.M (Kd.int .i64) _ _ _ s [.int .i64 s] from rfl) (Reps.none _ _))); intro v18 w18 ho hb hg_ hnew_; clear hg_ hnew_; (first | rw [← Ny18.out] at ho | (simp only [Int.reduceToNat] at ho; rw [← Ny18.out] at ho)); have nO_ := Aside0.mk (Kd.R_lower ho (below_size (hq HB.out))); have nB_ := Aside0.mk (below_step (hq HB.out) hb); have na_ := Aside0.mk (IsS25.below (mq Ha.out) hb); clear HB; have HB := nB_; clear nB_; clear Ha; have Ha := na_; clear na_; clear hb ho; have HO18 := nO_; clear nO_; have hx1_0 := (HB.out.cell (World.block_lt_of_cell? w _ HX.out)).trans HX.out) | ((with_reducible refine gate_builtin (b := .append) (xs := #[.tmp 18, .tmp 22]) rfl ?_); at_builtin; refine Kd.R_append_rows (Kd.int .i64) (w0 := w) w.heap.size rfl (.tmp 18) (.tmp 22) 28 3 (.int .i64 0) 8 rfl Try.underlying28 info3 rfl (by decide) (by omega) v18 y18 y1 _ _ _ (fun _ => True) (fun _ => False) rfl rfl ?aO ?aR (fun _ _ h => h) (fun _ h => h.elim) ?aF ?aB ?aS ?aL ?_; (case aR => exact (Kd.C_below HR1.out HB.out)); (case aB => exact HB.out); (case aF => exact (fun _ _ => trivial)); (case aO => exact HO18.out); (case aS => exact (below_size HB.out)); (case aL => have := LM.out; have := Nly18.out; omega); intro v23 w23 ho hb hg hat; rw [← Ny23.out] at ho; have na_ := Aside0.mk (IsS25.grown Ha.out hg (IsS25.own_ne Ha.out HO18.out (by decide))); clear HB HO18; have HB := Aside0.mk hb; have HO23 := Aside0.mk ho; clear Ha; have Ha := na_; clear na_; clear ho hb hg hat; obtain ⟨Ao23, co23, eo23⟩ := Kd.R_slice HO23.out; subst eo23; have hx1_0 := (HB.out.cell (World.block_lt_of_cell? w _ HX.out)).trans HX.out) | ((with_reducible refine gate_callee (f := 7) rfl ?_); refine goesL_ (some 24) rfl rfl Try.func7 (by kernel_rfl) rfl #[.slice Ao23 y23.length co23] rfl (by (try simp only [List.map_toArray, List.map_cons, List.map_nil]); first | done | rfl | (simp only [List.length_drop, List.length_take]; rfl)) ?_; (with_reducible refine (tollbarref1_Sum.calls k1 _ _ y23 b1 true _ ?side1 ?side2 A5.out).mono ?_); (case side1 => exact cq (Kd.R_reads' HO23.out).2.2); (case side2 => exact (Kd.R_reads' HO23.out).2.1); rintro e w' ⟨rfl, ⟨nd, rfl⟩⟩; refine ⟨_, rfl, ?_⟩) | ((with_reducible refine gate_callee (f := 8) rfl ?_); refine goesL_ (some 32) rfl rfl Try.func8 (by kernel_rfl) rfl #[.pointer (some ⟨ga, 0, none⟩), .slice A1 y1.length c1] rfl (by (try simp only [List.map_toArray, List.map_cons, List.map_nil]); first | done | rfl | (simp only [List.length_drop, List.length_take]; rfl)) ?_; (with_reducible refine (rate_Meter_Add.calls k1 ga s _ _ y1 true b1 w _ ?side1 ?side2 ?side3 ?side4 ?side5 A6.out).mono ?_); (case side1 => exact (mq Ha.out)); (case side2 => exact (hq HB.out)); (case side3 => exact Kd.C_below HR1.out (hq HB.out)); (case side4 => exact HC1.out); (case side5 => exact row_far HR1.out (Ha.out).2); rintro e wadd ⟨rfl, hi, hb, hk⟩; refine ⟨_, rfl, ?_⟩; try clear HO23; clear HB Ha; have HB := Aside0.mk hb; have Ha := Aside0.mk hi; clear hi hb hk) | ((with_reducible refine gate_callee (f := 9) rfl ?_); refine goesL_ (some 38) rfl rfl Try.func9 (by kernel_rfl) rfl #[.pointer (some ⟨ga, 0, none⟩)] rfl (by (try simp only [List.map_toArray, List.map_cons, List.map_nil]); first | done | rfl) ?_; (with_reducible refine (rate_Meter_Total.calls ga b1 b1 b1 w _ ?side1 ?side2 rfl).mono ?_); (case side1 => exact mq Ha.out); (case side2 => exact (hq HB.out)); rintro e wtot ⟨rfl, hi, hb, hk⟩; refine ⟨_, rfl, ?_⟩; clear HB Ha; have HB := Aside0.mk hb; have Ha := Aside0.mk hi; clear hi hb hk))
                go_roundg k1
                case measure => have := HK1.out; omega
                case rel => exact ⟨_, (wrap64 (i + 1)), (by first | rfl | (simp; done) | (simp [*]; done)), (by first | rfl | (simp; done) | (simp [*]; done)), H', ⟨by have := HK1.out; omega⟩, ⟨mq Ha.out⟩, ⟨hq HB.out⟩⟩
            · replace cb := Bool.eq_false_iff.mpr cb
              subst cb
              replace H : (if a1 = true then none else (if a2 = s then (tollbarlaw1_RateMeters.l0 k1 l0 s (wrap64 (i + 1))) else none)) = some r := H
              cases a1 with
              | true => exact absurd H (by simp)
              | false =>
                rw [if_neg (by decide)] at H
                have c8 : a2 = s := by
                  by_cases q : a2 = s
                  · exact q
                  · rw [if_neg q] at H; exact absurd H (by simp)
                rw [if_pos c8] at H
                replace c8 := c8.symm
                subst c8
                have H' := Aside0.mk H
                clear H
                have hx1_0 := (HB.out.cell (World.block_lt_of_cell? w _ HX.out)).trans HX.out
                go_wp2_with (first | ((with_reducible refine gate_dst (N := 18) rfl ?_); refine Kd.R_lit (Kd.int .i64) _ 3 ?hg (N := 18) ?hd (xs := ([s] : List Int)) (inner := [.int .i64 s]) (ok := fun _ => True) (okp := fun _ => True) ?hr ?hp (fun _ hk => hk) trivial (Below.refl _ _) (Nat.le_refl _) (by simp) ?_; (case hd => rfl); (case hg => rfl); (case hr => first | (go_simp; done) | (go_simp; rfl)); (case hp => exact (Reps.one (show Kd.M (Kd.int .i64) _ _ _ s [.int .i64 s] from rfl) (Reps.none _ _))); intro v18 w18 ho hb hg_ hnew_; clear hg_ hnew_; (first | rw [← Ny18.out] at ho | (simp only [Int.reduceToNat] at ho; rw [← Ny18.out] at ho)); have nO_ := Aside0.mk (Kd.R_lower ho (below_size (hq HB.out))); have nB_ := Aside0.mk (below_step (hq HB.out) hb); have na_ := Aside0.mk (IsS25.below (mq Ha.out) hb); clear HB; have HB := nB_; clear nB_; clear Ha; have Ha := na_; clear na_; clear hb ho; have HO18 := nO_; clear nO_; have hx1_0 := (HB.out.cell (World.block_lt_of_cell? w _ HX.out)).trans HX.out) | ((with_reducible refine gate_builtin (b := .append) (xs := #[.tmp 18, .tmp 22]) rfl ?_); at_builtin; refine Kd.R_append_rows (Kd.int .i64) (w0 := w) w.heap.size rfl (.tmp 18) (.tmp 22) 28 3 (.int .i64 0) 8 rfl Try.underlying28 info3 rfl (by decide) (by omega) v18 y18 y1 _ _ _ (fun _ => True) (fun _ => False) rfl rfl ?aO ?aR (fun _ _ h => h) (fun _ h => h.elim) ?aF ?aB ?aS ?aL ?_; (case aR => exact (Kd.C_below HR1.out HB.out)); (case aB => exact HB.out); (case aF => exact (fun _ _ => trivial)); (case aO => exact HO18.out); (case aS => exact (below_size HB.out)); (case aL => have := LM.out; have := Nly18.out; omega); intro v23 w23 ho hb hg hat; rw [← Ny23.out] at ho; have na_ := Aside0.mk (IsS25.grown Ha.out hg (IsS25.own_ne Ha.out HO18.out (by decide))); clear HB HO18; have HB := Aside0.mk hb; have HO23 := Aside0.mk ho; clear Ha; have Ha := na_; clear na_; clear ho hb hg hat; obtain ⟨Ao23, co23, eo23⟩ := Kd.R_slice HO23.out; subst eo23; have hx1_0 := (HB.out.cell (World.block_lt_of_cell? w _ HX.out)).trans HX.out) | ((with_reducible refine gate_callee (f := 7) rfl ?_); refine goesL_ (some 24) rfl rfl Try.func7 (by kernel_rfl) rfl #[.slice Ao23 y23.length co23] rfl (by (try simp only [List.map_toArray, List.map_cons, List.map_nil]); first | done | rfl | (simp only [List.length_drop, List.length_take]; rfl)) ?_; (with_reducible refine (tollbarref1_Sum.calls k1 _ _ y23 b1 false _ ?side1 ?side2 A5.out).mono ?_); (case side1 => exact cq (Kd.R_reads' HO23.out).2.2); (case side2 => exact (Kd.R_reads' HO23.out).2.1); rintro e w' ⟨rfl, ⟨nd, rfl⟩⟩; refine ⟨_, rfl, ?_⟩) | ((with_reducible refine gate_callee (f := 8) rfl ?_); refine goesL_ (some 32) rfl rfl Try.func8 (by kernel_rfl) rfl #[.pointer (some ⟨ga, 0, none⟩), .slice A1 y1.length c1] rfl (by (try simp only [List.map_toArray, List.map_cons, List.map_nil]); first | done | rfl | (simp only [List.length_drop, List.length_take]; rfl)) ?_; (with_reducible refine (rate_Meter_Add.calls k1 ga s _ _ y1 false s w _ ?side1 ?side2 ?side3 ?side4 ?side5 A6.out).mono ?_); (case side1 => exact (mq Ha.out)); (case side2 => exact (hq HB.out)); (case side3 => exact Kd.C_below HR1.out (hq HB.out)); (case side4 => exact HC1.out); (case side5 => exact row_far HR1.out (Ha.out).2); rintro e wadd ⟨rfl, hi, hb, hk⟩; refine ⟨_, rfl, ?_⟩; try clear HO23; clear HB Ha; have HB := Aside0.mk hb; have Ha := Aside0.mk hi; clear hi hb hk) | ((with_reducible refine gate_callee (f := 9) rfl ?_); refine goesL_ (some 38) rfl rfl Try.func9 (by kernel_rfl) rfl #[.pointer (some ⟨ga, 0, none⟩)] rfl (by (try simp only [List.map_toArray, List.map_cons, List.map_nil]); first | done | rfl) ?_; (with_reducible refine (rate_Meter_Total.calls ga s s s w _ ?side1 ?side2 rfl).mono ?_); (case side1 => exact mq Ha.out); (case side2 => exact (hq HB.out)); rintro e wtot ⟨rfl, hi, hb, hk⟩; refine ⟨_, rfl, ?_⟩; clear HB Ha; have HB := Aside0.mk hb; have Ha := Aside0.mk hi; clear hi hb hk))
                go_roundg k1
                case measure => have := HK1.out; omega
                case rel => exact ⟨_, (wrap64 (i + 1)), (by first | rfl | (simp; done) | (simp [*]; done)), (by first | rfl | (simp; done) | (simp [*]; done)), H', ⟨by have := HK1.out; omega⟩, ⟨mq Ha.out⟩, ⟨hq HB.out⟩⟩
          · rw [if_neg c4] at H
            exact absurd H (by simp)
        · rw [if_neg c3] at H
          exact absurd H (by simp)
      · rw [if_neg c2] at H
        have c2b0 : decide (i < (l0.length : Int)) = false := decide_eq_false c2
        clear c2
        obtain rfl := Option.some.inj H
        clear H
        go_wp2_with (first | ((with_reducible refine gate_callee (f := 10) rfl ?_); refine goesL_ (some 41) rfl rfl Try.func10 (by kernel_rfl) rfl #[] rfl (by (try simp only [List.map_toArray, List.map_cons, List.map_nil]); first | done | rfl | (simp only [List.length_drop, List.length_take]; rfl)) ?_; (with_reducible refine (tollbarlaw1_awake.calls true _ rfl).mono ?_); rintro e waw ⟨rfl, hb⟩; refine ⟨_, rfl, ?_⟩; have nB_ := Aside0.mk (below_step (hq HB.out) hb); have na_ := Aside0.mk (IsS25.below (mq Ha.out) hb); clear HB; have HB := nB_; clear nB_; clear Ha; have Ha := na_; clear na_; clear hb))
        go_ret
        exact ⟨(by first | rfl | (simp; done) | (simp [*]; done)), (hq HB.out)⟩
end Go.Proofs.Ytfdabjanjfehbaa.PAll
end
