/- Texts of this claim, one behind the other: F5. -/
import Derived.Test.YtfdabjanjfehbaaAa7e9b0
section
namespace Go.Proofs.Ytfdabjanjfehbaa.PAll
open Go.RowKit Go.Proofs.YtfdabjanjfehbaaW.PrintWords Go.Proofs.YtfdabjanjfehbaaW.PrintLast Go.Proofs.YtfdabjanjfehbaaW.PrintMore
attribute [local go_sem] max2_int min2_int max_two min_two max_three min_three max_four min_four   -- for this text's walks alone
set_option linter.unusedVariables false
set_option linter.unusedSimpArgs false
set_option maxHeartbeats 8000000
set_option maxRecDepth 100000
def tollbarlaw1_RateSingles.l0 : Nat → List Int → Int → Int → Int → Option Bool
  | 0, _, _, _, _ => none
  | k + 1, xs, sa, sb, i => if i < (xs.length : Int) then (if 0 ≤ i then ((rate_Meter_Add.f k sb [rd xs i]).bind fun b => (if b.1 = true then (tollbarlaw1_RateSingles.l0 k xs sa b.2 (wrap64 (i + 1))) else none)) else none) else (if sa = sb then some true else none)
def tollbarlaw1_RateSingles.f (k : Nat) (l0 : List Int) : Option Bool := (rate_Meter_Add.f k 0 l0).bind fun b => (if b.1 = true then (tollbarlaw1_RateSingles.l0 k l0 b.2 0 0) else (if b.2 = 0 then some true else none))
theorem tollbarlaw1_RateSingles.calls (k : Nat) (A0 : Option Addr) (c0 : Nat) (l0 : List Int) (r : Bool) (w : World) (hr0 : Kd.C (Kd.int .i64) w A0 l0.length l0) (hc0 : l0.length ≤ c0) (h : tollbarlaw1_RateSingles.f k l0 = some r) :
    Calls Try.prog 5 #[.slice A0 l0.length c0] w fun e w' => e = .returned (.bool r) ∧ Below w.heap.size w w' := by
  have hu25 := Try.underlying25
  have HR0 := Aside0.mk hr0
  have HC0 := Aside0.mk hc0
  clear hr0 hc0
  have HB := Aside0.mk (Below.refl w.heap.size w)
  unfold tollbarlaw1_RateSingles.f at h
  replace h := Option.bind_eq_some_iff.mp h
  obtain ⟨⟨b1, s1⟩, A10, h⟩ := h
  have A1 := Aside0.mk A10
  clear A10
  have KK := Aside0.mk (rfl : k = k)
  cases b1 with
  | false =>
    replace h : (if s1 = 0 then some true else none) = some r := h
    by_cases c1 : s1 = 0
    · rw [if_pos c1] at h
      obtain rfl := Option.some.inj h
      clear h
      subst c1
      go_enter Try.func5, Try.ntmps5
      go_wp2_with (first | ((with_reducible refine gate_dst (N := 7) rfl ?_); refine box_event ?hg (N := 7) ?hd (cs := #[.int .i64 0]) (t := 25) ?hr ?_; (case hd => rfl); (case hg => rfl); (case hr => first | (go_simp; done) | (go_simp; rfl)); intro ga hg wbox hbox hb; have nN_ := Aside0.mk (show IsS25 w _ ga 0 from ⟨hbox, by rw [hg]; exact (below_size (hq HB.out))⟩); have nB_ := Aside0.mk (below_step (hq HB.out) hb); clear HB; have HB := nB_; clear nB_; clear hb hbox hg; have Ha := nN_; clear nN_) | ((with_reducible refine gate_dst (N := 9) rfl ?_); refine box_event ?hg (N := 9) ?hd (cs := #[.int .i64 0]) (t := 25) ?hr ?_; (case hd => rfl); (case hg => rfl); (case hr => first | (go_simp; done) | (go_simp; rfl)); intro gb hg wbox hbox hb; have nN_ := Aside0.mk (show IsS25 w _ gb 0 from ⟨hbox, by rw [hg]; exact (below_size (hq HB.out))⟩); have NEab := Aside0.mk (show ga ≠ gb from by rw [hg]; exact Nat.ne_of_lt (IsS25.lt (mq Ha.out))); have nB_ := Aside0.mk (below_step (hq HB.out) hb); have na_ := Aside0.mk (IsS25.below (mq Ha.out) hb); clear HB; have HB := nB_; clear nB_; clear Ha; have Ha := na_; clear na_; clear hb hbox hg; have Hb := nN_; clear nN_) | ((with_reducible refine gate_callee (f := 8) rfl ?_); refine goesL_ (some 12) rfl rfl Try.func8 (by kernel_rfl) rfl #[.pointer (some ⟨ga, 0, none⟩), .slice A0 l0.length c0] rfl (by (try simp only [List.map_toArray, List.map_cons, List.map_nil]); first | done | rfl | (simp only [List.length_drop, List.length_take]; rfl)) ?_; (with_reducible refine (rate_Meter_Add.calls k ga 0 _ _ l0 false 0 w _ ?side1 ?side2 ?side3 ?side4 ?side5 A1.out).mono ?_); (case side1 => exact (mq Ha.out)); (case side2 => exact (hq HB.out)); (case side3 => exact Kd.C_below HR0.out (hq HB.out)); (case side4 => exact HC0.out); (case side5 => exact row_far HR0.out (Ha.out).2); rintro e wadd ⟨rfl, hi, hb, hk⟩; refine ⟨_, rfl, ?_⟩; have nb_ := Aside0.mk (meter_keep (mq Hb.out) hk (fun e_ => NEab.out e_.symm)); clear HB Ha; have HB := Aside0.mk hb; have Ha := Aside0.mk hi; clear Hb; have Hb := nb_; clear nb_; clear hi hb hk) | ((with_reducible refine gate_callee (f := 10) rfl ?_); refine goesL_ (some 14) rfl rfl Try.func10 (by kernel_rfl) rfl #[] rfl (by (try simp only [List.map_toArray, List.map_cons, List.map_nil]); first | done | rfl | (simp only [List.length_drop, List.length_take]; rfl)) ?_; (with_reducible refine (tollbarlaw1_awake.calls true _ rfl).mono ?_); rintro e waw ⟨rfl, hb⟩; refine ⟨_, rfl, ?_⟩; have nB_ := Aside0.mk (below_step (hq HB.out) hb); have na_ := Aside0.mk (IsS25.below (mq Ha.out) hb); have nb_ := Aside0.mk (IsS25.below (mq Hb.out) hb); clear HB; have HB := nB_; clear nB_; clear Ha; have Ha := na_; clear na_; clear Hb; have Hb := nb_; clear nb_; clear hb) | (go_at_call 9; (with_reducible refine (rate_Meter_Total.calls ga 0 0 0 w _ ?side1 ?side2 rfl).mono ?_); (case side1 => exact (mq Ha.out)); (case side2 => exact (hq HB.out)); rintro e wtot ⟨rfl, hi, hb, hk⟩; have nb_ := Aside0.mk (meter_keep (mq Hb.out) hk (fun e_ => NEab.out e_.symm)); clear HB Ha; have HB := Aside0.mk hb; have Ha := Aside0.mk hi; clear Hb; have Hb := nb_; clear nb_; clear hi hb hk))
      go_ret
      exact ⟨(by first | rfl | (simp; done) | (simp [*]; done)), (hq HB.out)⟩
    · rw [if_neg c1] at h
      exact absurd h (by simp)
  | true =>
    replace h : (tollbarlaw1_RateSingles.l0 k l0 s1 0 0) = some r := h
    have H' := Aside0.mk h
    clear h
    go_enter Try.func5, Try.ntmps5
    go_wp2_with (first | ((with_reducible refine gate_dst (N := 7) rfl ?_); refine box_event ?hg (N := 7) ?hd (cs := #[.int .i64 0]) (t := 25) ?hr ?_; (case hd => rfl); (case hg => rfl); (case hr => first | (go_simp; done) | (go_simp; rfl)); intro ga hg wbox hbox hb; have nN_ := Aside0.mk (show IsS25 w _ ga 0 from ⟨hbox, by rw [hg]; exact (below_size (hq HB.out))⟩); have nB_ := Aside0.mk (below_step (hq HB.out) hb); clear HB; have HB := nB_; clear nB_; clear hb hbox hg; have Ha := nN_; clear nN_) | ((with_reducible refine gate_dst (N := 9) rfl ?_); refine box_event ?hg (N := 9) ?hd (cs := #[.int .i64 0]) (t := 25) ?hr ?_; (case hd => rfl); (case hg => rfl); (case hr => first | (go_simp; done) | (go_simp; rfl)); intro gb hg wbox hbox hb; have nN_ := Aside0.mk (show IsS25 w _ gb 0 from ⟨hbox, by rw [hg]; exact (below_size (hq HB.out))⟩); have NEab := Aside0.mk (show ga ≠ gb from by rw [hg]; exact Nat.ne_of_lt (IsS25.lt (mq Ha.out))); have nB_ := Aside0.mk (below_step (hq HB.out) hb); have na_ := Aside0.mk (IsS25.below (mq Ha.out) hb); clear HB; have HB := nB_; clear nB_; clear Ha; have Ha := na_; clear na_; clear hb hbox hg; have Hb := nN_; clear nN_) | ((with_reducible refine gate_callee (f := 8) rfl ?_); refine goesL_ (some 12) rfl rfl Try.func8 (by kernel_rfl) rfl #[.pointer (some ⟨ga, 0, none⟩), .slice A0 l0.length c0] rfl (by (try simp only [List.map_toArray, List.map_cons, List.map_nil]); first | done | rfl | (simp only [List.length_drop, List.length_take]; rfl)) ?_; (with_reducible refine (rate_Meter_Add.calls k ga 0 _ _ l0 true s1 w _ ?side1 ?side2 ?side3 ?side4 ?side5 A1.out).mono ?_); (case side1 => exact (mq Ha.out)); (case side2 => exact (hq HB.out)); (case side3 => exact Kd.C_below HR0.out (hq HB.out)); (case side4 => exact HC0.out); (case side5 => exact row_far HR0.out (Ha.out).2); rintro e wadd ⟨rfl, hi, hb, hk⟩; refine ⟨_, rfl, ?_⟩; have nb_ := Aside0.mk (meter_keep (mq Hb.out) hk (fun e_ => NEab.out e_.symm)); clear HB Ha; have HB := Aside0.mk hb; have Ha := Aside0.mk hi; clear Hb; have Hb := nb_; clear nb_; clear hi hb hk))
    go_loopg [5] k (fun kq v5 w' => ∃ (i sb : Int), v5 = .int .i64 i ∧ Aside0 (tollbarlaw1_RateSingles.l0 kq l0 s1 sb i = some r) ∧ Aside0 (kq ≤ k) ∧ Aside0 (IsS25 w w' ga s1) ∧ Aside0 (IsS25 w w' gb sb) ∧ Aside0 (Below w.heap.size w w'))
    case atStart => exact ⟨0, 0, (by first | rfl | (simp; done) | (simp [*]; done)), H', ⟨Nat.le_refl _⟩, ⟨mq Ha.out⟩, ⟨mq Hb.out⟩, ⟨hq HB.out⟩⟩
    case round =>
      clear H' Ha Hb HB
      obtain ⟨i, sb, rfl, HA, HK1, Ha, Hb, HB⟩ := hrel
      cases gk with
      | zero => exact absurd HA.out (by simp [tollbarlaw1_RateSingles.l0])
      | succ k1 =>
        have H := HA.out
        clear HA
        simp only [tollbarlaw1_RateSingles.l0] at H
        by_cases c2 : i < (l0.length : Int)
        · rw [if_pos c2] at H
          have c2b0 : decide (i < (l0.length : Int)) = true := decide_eq_true c2
          clear c2
          by_cases c3 : 0 ≤ i
          · rw [if_pos c3] at H
            have c3b0 : decide (0 ≤ i) = true := decide_eq_true c3
            clear c3
            obtain ⟨y31, hy31⟩ : ∃ y_ : List Int, y_ = ([rd l0 i] : List Int) := ⟨_, rfl⟩
            have Ny31 := Aside0.mk hy31
            rw [← hy31] at H
            clear hy31
            replace H := Option.bind_eq_some_iff.mp H
            obtain ⟨⟨b2, s2⟩, A20, H⟩ := H
            have A2 := Aside0.mk A20
            clear A20
            cases b2 with
            | false => exact absurd H (by simp)
            | true =>
              replace H : (tollbarlaw1_RateSingles.l0 k1 l0 s1 s2 (wrap64 (i + 1))) = some r := H
              have H' := Aside0.mk H
              clear H
              have p1 : 0 ≤ (i : Int) := of_decide_eq_true (by first | (with_reducible assumption) | assumption)
              have q1 : i < (l0.length : Int) := of_decide_eq_true (by first | (with_reducible assumption) | assumption)
              obtain ⟨ad1, e1, hx1_0⟩ := Kd.at_int HR0.out i p1 q1
              cases e1
              replace hx1_0 := (HB.out.cell (World.block_lt_of_cell? w _ hx1_0)).trans hx1_0
              replace p1 := eq_true p1
              replace q1 := eq_true q1
              go_wp2_with (first | ((with_reducible refine gate_dst (N := 31) rfl ?_); refine Kd.R_lit (Kd.int .i64) _ 3 ?hg (N := 31) ?hd (xs := ([(rd l0 i)] : List Int)) (inner := [.int .i64 (rd l0 i)]) (ok := fun _ => True) (okp := fun _ => True) ?hr ?hp (fun _ hk => hk) trivial (Below.refl _ _) (Nat.le_refl _) (by simp) ?_; (case hd => rfl); (case hg => rfl); (case hr => first | (go_simp; done) | (go_simp; rfl)); (case hp => exact (Reps.one (show Kd.M (Kd.int .i64) _ _ _ (rd l0 i) [.int .i64 (rd l0 i)] from rfl) (Reps.none _ _))); intro v31 w31 ho hb hg_ hnew_; clear hg_ hnew_; (first | rw [← Ny31.out] at ho | (simp only [Int.reduceToNat] at ho; rw [← Ny31.out] at ho)); have nO_ := Aside0.mk (Kd.R_lower ho (below_size (hq HB.out))); have nB_ := Aside0.mk (below_step (hq HB.out) hb); have na_ := Aside0.mk (IsS25.below (mq Ha.out) hb); have nb_ := Aside0.mk (IsS25.below (mq Hb.out) hb); clear HB; have HB := nB_; clear nB_; clear Ha; have Ha := na_; clear na_; clear Hb; have Hb := nb_; clear nb_; clear hb ho; have HO31 := nO_; clear nO_; obtain ⟨Ao31, co31, eo31⟩ := Kd.R_slice HO31.out; subst eo31) | ((with_reducible refine gate_callee (f := 8) rfl ?_); refine goesL_ (some 32) rfl rfl Try.func8 (by kernel_rfl) rfl #[.pointer (some ⟨gb, 0, none⟩), .slice Ao31 y31.length co31] rfl (by (try simp only [List.map_toArray, List.map_cons, List.map_nil]); first | done | rfl | (simp only [List.length_drop, List.length_take]; rfl)) ?_; (with_reducible refine (rate_Meter_Add.calls k1 gb sb _ _ y31 true s2 w _ ?side1 ?side2 ?side3 ?side4 ?side5 A2.out).mono ?_); (case side1 => exact (mq Hb.out)); (case side2 => exact (hq HB.out)); (case side3 => exact cq (Kd.R_reads' HO31.out).2.2); (case side4 => exact (Kd.R_reads' HO31.out).2.1); (case side5 => intro ad e_ hl_ he_; exact IsS25.own_ne (mq Hb.out) (rq HO31.out) (by decide) (by rw [e_, ← he_]; rfl)); rintro e wadd ⟨rfl, hi, hb, hk⟩; refine ⟨_, rfl, ?_⟩; have na_ := Aside0.mk (meter_keep (mq Ha.out) hk NEab.out); try clear HO31; clear HB Hb; have HB := Aside0.mk hb; have Hb := Aside0.mk hi; clear Ha; have Ha := na_; clear na_; clear hi hb hk))
              go_roundg k1
              case measure => have := HK1.out; omega
              case rel => exact ⟨(wrap64 (i + 1)), s2, (by first | rfl | (simp; done) | (simp [*]; done)), H', ⟨by have := HK1.out; omega⟩, ⟨mq Ha.out⟩, ⟨mq Hb.out⟩, ⟨hq HB.out⟩⟩
          · rw [if_neg c3] at H
            exact absurd H (by simp)
        · rw [if_neg c2] at H
          have c2b0 : decide (i < (l0.length : Int)) = false := decide_eq_false c2
          clear c2
          by_cases c4 : s1 = sb
          · rw [if_pos c4] at H
            obtain rfl := Option.some.inj H
            clear H
            subst c4
            go_wp2_with (first | ((with_reducible refine gate_callee (f := 10) rfl ?_); refine goesL_ (some 34) rfl rfl Try.func10 (by kernel_rfl) rfl #[] rfl (by (try simp only [List.map_toArray, List.map_cons, List.map_nil]); first | done | rfl | (simp only [List.length_drop, List.length_take]; rfl)) ?_; (with_reducible refine (tollbarlaw1_awake.calls true _ rfl).mono ?_); rintro e waw ⟨rfl, hb⟩; refine ⟨_, rfl, ?_⟩; have nB_ := Aside0.mk (below_step (hq HB.out) hb); have na_ := Aside0.mk (IsS25.below (mq Ha.out) hb); have nb_ := Aside0.mk (IsS25.below (mq Hb.out) hb); clear HB; have HB := nB_; clear nB_; clear Ha; have Ha := na_; clear na_; clear Hb; have Hb := nb_; clear nb_; clear hb) | (go_at_call 9; (with_reducible refine (rate_Meter_Total.calls ga s1 s1 s1 w _ ?side1 ?side2 rfl).mono ?_); (case side1 => exact (mq Ha.out)); (case side2 => exact (hq HB.out)); rintro e wtot ⟨rfl, hi, hb, hk⟩; have nb_ := Aside0.mk (meter_keep (mq Hb.out) hk (fun e_ => NEab.out e_.symm)); clear HB Ha; have HB := Aside0.mk hb; have Ha := Aside0.mk hi; clear Hb; have Hb := nb_; clear nb_; clear hi hb hk) | (go_at_call 9; (with_reducible refine (rate_Meter_Total.calls gb s1 s1 s1 w _ ?side1 ?side2 rfl).mono ?_); (case side1 => exact (mq Hb.out)); (case side2 => exact (hq HB.out)); rintro e wtot ⟨rfl, hi, hb, hk⟩; have na_ := Aside0.mk (meter_keep (mq Ha.out) hk NEab.out); clear HB Hb; have HB := Aside0.mk hb; have Hb := Aside0.mk hi; clear Ha; have Ha := na_; clear na_; clear hi hb hk))
            go_ret
            exact ⟨(by first | rfl | (simp; done) | (simp [*]; done)), (hq HB.out)⟩
          · rw [if_neg c4] at H
            exact absurd H (by simp)
end Go.Proofs.Ytfdabjanjfehbaa.PAll
end
