/- Texts of this claim, one behind the other: F46, F30, F14, F23, F11, F31, F15, F35, F20, F18. -/
import Derived.Test.YtjpgnmbocklenaaAc88203
import Derived.Test.YtjpgnmbocklenaaAbfada6
section
namespace Go.Proofs.Ytjpgnmbocklenaa.PAll
open Go.RowKit Go.Proofs.YtjpgnmbocklenaaW.PrintWords Go.Proofs.YtjpgnmbocklenaaW.PrintLast Go.Proofs.YtjpgnmbocklenaaW.PrintMore
attribute [local go_sem] max2_int min2_int max_two min_two max_three min_three max_four min_four   -- for this text's walks alone
set_option linter.unusedVariables false
set_option linter.unusedSimpArgs false
set_option maxHeartbeats 8000000
set_option maxRecDepth 100000
mutual
def tollbarref4_twice.l0 : Nat → List Int → Int → Option (Bool)
  | 0, _, _ => none
  | k + 1, x0, x3 => if x3 < (x0.length : Int) then (tollbarref4_twice.l1 k x0 x3 0) else (some false)
def tollbarref4_twice.l1 : Nat → List Int → Int → Int → Option (Bool)
  | 0, _, _, _ => none
  | k + 1, x0, x3, x4 => if x4 < x3 then (if 0 ≤ x3 then (if x3 < (x0.length : Int) then (if 0 ≤ x4 then (if x4 < (x0.length : Int) then (if (rd x0 x3) = (rd x0 x4) then (some true) else (tollbarref4_twice.l1 k x0 x3 (wrap64 (x4 + 1)))) else (none)) else (none)) else (none)) else (none)) else (tollbarref4_twice.l0 k x0 (wrap64 (x3 + 1)))
end
def tollbarref4_twice.f (k : Nat) (l0 : List Int) : Option (Bool) := tollbarref4_twice.l0 k l0 0
theorem tollbarref4_twice.calls (k : Nat) (A0 : Option Addr) (c0 : Nat) (l0 : List Int) (r : Bool) (w : World) (hr0 : Kd.C (Kd.int .i64) w A0 l0.length l0) (hc0 : l0.length ≤ c0) (h : tollbarref4_twice.f k l0 = some r) :
    Calls Try.prog 46 #[.slice A0 l0.length c0] w fun e w' => e = .returned (.bool r) ∧ Drawn0 w w' := by
  have HR0 := Aside0.mk hr0
  have HC0 := Aside0.mk hc0
  clear hr0 hc0
  have H : (tollbarref4_twice.l0 k l0 0) = some r := h
  clear h
  have H' := Aside0.mk H
  clear H
  go_enter Try.func46, Try.ntmps46
  go_wp2
  repeat (go_quiet (fail); try go_wp2)
  go_loopg [3] k (fun kq v3 w' => ∃ (x3_1 : Int), v3 = .int .i64 x3_1 ∧ Aside0 (tollbarref4_twice.l0 kq l0 x3_1 = some r) ∧ Aside0 (kq ≤ k) ∧ Drawn0 w w')
  case atStart => exact ⟨(0), (by first | rfl | (simp; done) | (simp [*]; done)), H', ⟨Nat.le_refl _⟩, by repeat (first | exact Drawn0.refl _ | apply Drawn0.step)⟩
  case round =>
    clear H'
    obtain ⟨x3_1, rfl, HA, HK1, ⟨m1, rfl⟩⟩ := hrel
    cases gk with
    | zero => exact absurd HA.out (by simp [tollbarref4_twice.l0])
    | succ k1 =>
      have H := HA.out
      clear HA
      simp only [tollbarref4_twice.l0] at H
      by_cases c2 : x3_1 < (l0.length : Int)
      · rw [if_pos c2] at H
        have c2b0 : decide (x3_1 < (l0.length : Int)) = true := decide_eq_true c2
        clear c2
        have H' := Aside0.mk H
        clear H
        go_wp2
        repeat (go_quiet (fail); try go_wp2)
        go_loopg [4] k1 (fun kq v4 w' => ∃ (x4_2 : Int), v4 = .int .i64 x4_2 ∧ Aside0 (tollbarref4_twice.l1 kq l0 x3_1 x4_2 = some r) ∧ Aside0 (kq ≤ k1) ∧ Drawn0 w w')
        case atStart => exact ⟨(0), (by first | rfl | (simp; done) | (simp [*]; done)), H', ⟨Nat.le_refl _⟩, by repeat (first | exact Drawn0.refl _ | apply Drawn0.step)⟩
        case round =>
          clear H'
          try clear c2
          try clear c2b0
          try clear p2
          obtain ⟨x4_2, rfl, HA, HK2, ⟨m2, rfl⟩⟩ := hrel
          cases gk with
          | zero => exact absurd HA.out (by simp [tollbarref4_twice.l1])
          | succ k2 =>
            have H := HA.out
            clear HA
            simp only [tollbarref4_twice.l1] at H
            by_cases c3 : x4_2 < x3_1
            · rw [if_pos c3] at H
              have c3b0 : decide (x4_2 < x3_1) = true := decide_eq_true c3
              clear c3
              by_cases c4 : 0 ≤ x3_1
              · rw [if_pos c4] at H
                have c4b0 : decide (0 ≤ x3_1) = true := decide_eq_true c4
                clear c4
                by_cases c5 : x3_1 < (l0.length : Int)
                · rw [if_pos c5] at H
                  have c5b0 : decide (x3_1 < (l0.length : Int)) = true := decide_eq_true c5
                  clear c5
                  by_cases c6 : 0 ≤ x4_2
                  · rw [if_pos c6] at H
                    have c6b0 : decide (0 ≤ x4_2) = true := decide_eq_true c6
                    clear c6
                    by_cases c7 : x4_2 < (l0.length : Int)
                    · rw [if_pos c7] at H
                      have c7b0 : decide (x4_2 < (l0.length : Int)) = true := decide_eq_true c7
                      clear c7
                      by_cases c8 : (rd l0 x3_1) = (rd l0 x4_2)
                      · rw [if_pos c8] at H
                        have c8b0 : ((rd l0 x3_1) == (rd l0 x4_2)) = true := beq_iff_eq.mpr c8
                        have c8b1 : ((rd l0 x3_1) != (rd l0 x4_2)) = false := bne_eq_false_iff_eq.mpr c8
                        clear c8
                        obtain rfl := Option.some.inj H
                        have p336 : 0 ≤ (x3_1 : Int) := od
                        have q336 : x3_1 < (l0.length : Int) := od
                        obtain ⟨ad336, e336, hx336_0⟩ := Kd.at_int HR0.out x3_1 p336 q336
                        cases e336
                        replace p336 := eq_true p336
                        replace q336 := eq_true q336
                        have p337 : 0 ≤ (x4_2 : Int) := od
                        have q337 : x4_2 < (l0.length : Int) := od
                        obtain ⟨ad337, e337, hx337_0⟩ := Kd.at_int HR0.out x4_2 p337 q337
                        obtain rfl : ad336 = ad337 := (by injection e337)
                        replace p337 := eq_true p337
                        replace q337 := eq_true q337
                        go_wp2
                        repeat (go_quiet (fail); try go_wp2)
                        go_ret
                        exact ⟨by first | rfl | (simp; done) | (simp [*]; done), by repeat (first | exact Drawn0.refl _ | apply Drawn0.step)⟩
                      · rw [if_neg c8] at H
                        have c8b0 : ((rd l0 x3_1) == (rd l0 x4_2)) = false := beq_eq_false_iff_ne.mpr c8
                        have c8b1 : ((rd l0 x3_1) != (rd l0 x4_2)) = true := bne_iff_ne.mpr c8
                        have H' := Aside0.mk H
                        clear H
                        have p336 : 0 ≤ (x3_1 : Int) := od
                        have q336 : x3_1 < (l0.length : Int) := od
                        obtain ⟨ad336, e336, hx336_0⟩ := Kd.at_int HR0.out x3_1 p336 q336
                        cases e336
                        replace p336 := eq_true p336
                        replace q336 := eq_true q336
                        have p337 : 0 ≤ (x4_2 : Int) := od
                        have q337 : x4_2 < (l0.length : Int) := od
                        obtain ⟨ad337, e337, hx337_0⟩ := Kd.at_int HR0.out x4_2 p337 q337
                        obtain rfl : ad336 = ad337 := (by injection e337)
                        replace p337 := eq_true p337
                        replace q337 := eq_true q337
                        go_wp2
                        repeat (go_quiet (fail); try go_wp2)
                        go_roundg k2
                        case measure => have := HK1.out; have := HK2.out; omega
                        case rel => exact ⟨(wrap64 (x4_2 + 1)), (by first | rfl | (simp; done) | (simp [*]; done)), H', ⟨by have := HK1.out; have := HK2.out; omega⟩, by repeat (first | exact Drawn0.refl _ | apply Drawn0.step)⟩
                    · rw [if_neg c7] at H
                      exact absurd H (by simp)
                  · rw [if_neg c6] at H
                    exact absurd H (by simp)
                · rw [if_neg c5] at H
                  exact absurd H (by simp)
              · rw [if_neg c4] at H
                exact absurd H (by simp)
            · rw [if_neg c3] at H
              have c3b0 : decide (x4_2 < x3_1) = false := decide_eq_false c3
              clear c3
              have H' := Aside0.mk H
              clear H
              go_wp2
              repeat (go_quiet (fail); try go_wp2)
              go_roundg k2
              case measure => have := HK1.out; have := HK2.out; omega
              case rel => exact ⟨(wrap64 (x3_1 + 1)), (by first | rfl | (simp; done) | (simp [*]; done)), H', ⟨by have := HK1.out; have := HK2.out; omega⟩, by repeat (first | exact Drawn0.refl _ | apply Drawn0.step)⟩
      · rw [if_neg c2] at H
        have c2b0 : decide (x3_1 < (l0.length : Int)) = false := decide_eq_false c2
        clear c2
        obtain rfl := Option.some.inj H
        go_wp2
        repeat (go_quiet (fail); try go_wp2)
        go_ret
        exact ⟨by first | rfl | (simp; done) | (simp [*]; done), by repeat (first | exact Drawn0.refl _ | apply Drawn0.step)⟩
def tollbarref4_PathMay.f (k : Nat) (a0_0 : Int) (l0_1 : List (S53)) (a1 : Int) (a2 : Int) (l3 : List Int) : Option (Bool) := (tollbarref4_Walk.f k a0_0 l0_1 a1 l3).bind fun bt339 => (if bt339.2 = 0 then (if (l3.length : Int) > 0 then (if 0 ≤ (wrap64 ((bt339.1.length : Int) - 1)) then (if (wrap64 ((bt339.1.length : Int) - 1)) < (bt339.1.length : Int) then (if (rd bt339.1 (wrap64 ((bt339.1.length : Int) - 1))) = a2 then ((tollbarref4_twice.f k bt339.1).bind fun t344 => (some (!t344))) else (some false)) else (none)) else (none)) else (some false)) else (some false))
theorem tollbarref4_PathMay.calls (k : Nat) (a0_0 : Int) (A0_1 : Option Addr) (c0_1 : Nat) (l0_1 : List (S53)) (a1 : Int) (a2 : Int) (A3 : Option Addr) (c3 : Nat) (l3 : List Int) (r : Bool) (w : World) (hr0_1 : Kd.C k53 w A0_1 l0_1.length l0_1) (hc0_1 : l0_1.length ≤ c0_1) (hr3 : Kd.C (Kd.int .i64) w A3 l3.length l3) (hc3 : l3.length ≤ c3) (h : tollbarref4_PathMay.f k a0_0 l0_1 a1 a2 l3 = some r) :
  Calls Try.prog 30 #[.agg #[.int .i64 a0_0, .slice A0_1 l0_1.length c0_1], .int .i64 a1, .int .i64 a2, .slice A3 l3.length c3] w fun e w' => e = .returned (.bool r) ∧ Below w.heap.size w w' := by
 have hu24 := Try.underlying24
 have HR0_1 := Aside0.mk hr0_1
 have HC0_1 := Aside0.mk hc0_1
 clear hr0_1 hc0_1
 have HR3 := Aside0.mk hr3
 have HC3 := Aside0.mk hc3
 clear hr3 hc3
 have HB := Aside0.mk (Below.refl w.heap.size w)
 have H : ((tollbarref4_Walk.f k a0_0 l0_1 a1 l3).bind fun bt339 => (if bt339.2 = 0 then (if (l3.length : Int) > 0 then (if 0 ≤ (wrap64 ((bt339.1.length : Int) - 1)) then (if (wrap64 ((bt339.1.length : Int) - 1)) < (bt339.1.length : Int) then (if (rd bt339.1 (wrap64 ((bt339.1.length : Int) - 1))) = a2 then ((tollbarref4_twice.f k bt339.1).bind fun t344 => (some (!t344))) else (some false)) else (none)) else (none)) else (some false)) else (some false))) = some r := h
 clear h
 replace H := Option.bind_eq_some_iff.mp H
 obtain ⟨⟨t339, t342⟩, A50, H⟩ := H
 replace H : (if t342 = 0 then (if (l3.length : Int) > 0 then (if 0 ≤ (wrap64 ((t339.length : Int) - 1)) then (if (wrap64 ((t339.length : Int) - 1)) < (t339.length : Int) then (if (rd t339 (wrap64 ((t339.length : Int) - 1))) = a2 then ((tollbarref4_twice.f k t339).bind fun t344 => (some (!t344))) else (some false)) else (none)) else (none)) else (some false)) else (some false)) = some r := H
 have A5 := Aside0.mk A50
 clear A50
 by_cases c6 : t342 = 0
 ·
  rw [if_pos c6] at H
  have c6b0 : (t342 == 0) = true := beq_iff_eq.mpr c6
  have c6b1 : (t342 != 0) = false := bne_eq_false_iff_eq.mpr c6
  clear c6
  by_cases c7 : (l3.length : Int) > 0
  ·
   rw [if_pos c7] at H
   have c7b0 : decide (0 < (l3.length : Int)) = true := decide_eq_true c7
   have c7b1 : decide (0 < l3.length) = true := decide_eq_true (by omega)
   clear c7
   obtain ⟨ji8, hji8⟩ : ∃ j_ : Int, (wrap64 ((t339.length : Int) - 1)) = j_ := ⟨_, rfl⟩
   replace H : (if 0 ≤ (ji8) then (if (ji8) < (t339.length : Int) then (if (rd t339 (ji8)) = a2 then ((tollbarref4_twice.f k t339).bind fun t344 => (some (!t344))) else (some false)) else (none)) else (none)) = some r := by first | (rw [hji8] at H; exact H) | (simp only [hji8] at H ⊢; exact H)
   (try rw [hji8] at A5)
   have hji8w : (IntKind.i64.wrap ((t339.length : Int) - 1)) = ji8 := (i64_w _).trans hji8
   by_cases c9 : 0 ≤ (ji8)
   ·
    rw [if_pos c9] at H
    have c9b0 : decide (0 ≤ (ji8)) = true := decide_eq_true c9
    clear c9
    by_cases c10 : (ji8) < (t339.length : Int)
    ·
     rw [if_pos c10] at H
     have c10b0 : decide ((ji8) < (t339.length : Int)) = true := decide_eq_true c10
     clear c10
     by_cases c11 : (rd t339 (ji8)) = a2
     ·
      rw [if_pos c11] at H
      have c11b0 : ((rd t339 (ji8)) == a2) = true := beq_iff_eq.mpr c11
      have c11b1 : ((rd t339 (ji8)) != a2) = false := bne_eq_false_iff_eq.mpr c11
      clear c11
      replace H := Option.bind_eq_some_iff.mp H
      obtain ⟨t344, A120, H⟩ := H
      replace H : (some (!t344)) = some r := H
      have A12 := Aside0.mk A120
      clear A120
      obtain rfl := Option.some.inj H
      go_enter Try.func30, Try.ntmps30
      go_wp2_with (first | ((with_reducible refine gate_dst (N := 4) rfl ?_); (try (refine gate_guard (by rfl) ?_; dsimp only)); refine box_event ?hg (N := 4) ?hd (cs := #[.int .i64 a0_0, .slice A0_1 l0_1.length c0_1]) (t := 24) ?hr ?_; (case hd => rfl); (case hg => rfl); (case hr => first | (go_simp; done) | (go_simp; rfl)); intro gb338 hg w13 hbox hb; have n0_ := Aside0.mk (below_step (by repeat (first | (with_reducible first | exact HB.out | apply below_alloc | apply pw_below_drewN | apply below_drew1) | exact HB.out)) hb); have n1_ := Aside0.mk (hbox); have n2_ := Aside0.mk ((by rw [hg]; exact (below_size (by repeat (first | (with_reducible first | exact HB.out | apply below_alloc | apply pw_below_drewN | apply below_drew1) | exact HB.out))) : w.heap.size ≤ gb338)); have n3_ := Aside0.mk ((by rw [hg]; exact (below_size (by repeat (first | (with_reducible first | exact HB.out | apply below_alloc | apply pw_below_drewN | apply below_drew1) | exact HB.out))) : w.heap.size ≤ gb338)); clear HB; have HB := n0_; have BK338 := n1_; have GW338 := n2_; have GE338 := n3_; clear n0_ n1_ n2_ n3_; clear hb hbox hg; have hcz14_0 := blk_at BK338.out 0; have hcz14_1 := blk_at BK338.out 1; have hfz14_0 := blk_frozen BK338.out 0; have hfz14_1 := blk_frozen BK338.out 1) | ((with_reducible refine gate_callee (f := 45) rfl ?_); refine goesL_ (some 15) rfl rfl Try.func45 (by kernel_rfl) rfl #[.agg #[.int .i64 a0_0, .slice A0_1 l0_1.length c0_1], .int .i64 a1, .slice A3 l3.length c3] rfl (by (try simp only [List.map_toArray, List.map_cons, List.map_nil]); first | done | rfl | (simp only [List.length_drop, List.length_take]; rfl)) ?_; (with_reducible refine (tollbarref4_Walk.calls k a0_0 _ _ l0_1 a1 _ _ l3 t339 t342 _ ?side1 ?side2 ?side3 ?side4 A5.out).mono ?_); (case side1 => repeat (first | exact (Kd.C_below HR0_1.out HB.out) | (with_reducible refine Kd.C_alloc ?_ _) | (with_reducible refine Kd.C_drewN ?_ _) | (with_reducible refine Kd.C_drew ?_))); (case side2 => exact HC0_1.out); (case side3 => repeat (first | exact (Kd.C_below HR3.out HB.out) | (with_reducible refine Kd.C_alloc ?_ _) | (with_reducible refine Kd.C_drewN ?_ _) | (with_reducible refine Kd.C_drew ?_))); (case side4 => exact HC3.out); rintro e w15 ⟨v340, rfl, ho0, hb⟩; refine ⟨_, rfl, ?_⟩; have n0_ := Aside0.mk (Kd.R_lower ho0 (below_size (by repeat (first | (with_reducible first | exact HB.out | apply below_alloc | apply pw_below_drewN | apply below_drew1 | refine below_set ?_ GE338.out) | exact HB.out)))); have n1_ := Aside0.mk (blk_below (g := gb338) (o := .cells #[.int .i64 a0_0, .slice A0_1 l0_1.length c0_1] 24 (0, 0)) (by (with_reducible repeat (first | refine blk_drewN ?_ _ | refine blk_drew ?_ | refine blk_alloc ?_ _)); exact BK338.out) hb); have n2_ := Aside0.mk (below_step (by repeat (first | (with_reducible first | exact HB.out | apply below_alloc | apply pw_below_drewN | apply below_drew1 | refine below_set ?_ GE338.out) | exact HB.out)) hb); clear BK338; clear HB; have HO341 := n0_; have BK338 := n1_; have HB := n2_; clear n0_ n1_ n2_; (try clear hb); (try clear hb2); (try clear hk); (try clear hi); (try clear ho0); obtain ⟨Ao16, co16, eo16⟩ := Kd.R_slice HO341.out; subst eo16; have p343 : 0 ≤ ((ji8) : Int) := od; have q343 : (ji8) < (t339.length : Int) := od; obtain ⟨ad343, e343, hx343_0⟩ := Kd.at_int (Kd.R_reads' HO341.out).2.2 (ji8) p343 q343; cases e343; replace p343 := eq_true p343; replace q343 := eq_true q343) | (go_at_call 46; (with_reducible refine (tollbarref4_twice.calls k _ _ t339 t344 _ ?side1 ?side2 A12.out).mono ?_); (case side1 => repeat (first | exact (Kd.R_reads' HO341.out).2.2 | (with_reducible refine Kd.C_alloc ?_ _) | (with_reducible refine Kd.C_drewN ?_ _) | (with_reducible refine Kd.C_drew ?_))); (case side2 => exact (Kd.R_reads' HO341.out).2.1); rintro e w' ⟨rfl, ⟨nd, rfl⟩⟩))
      go_ret
      exact ⟨by first | rfl | (simp [errW_none, errW_some] <;> rfl) | (simp only [← hji8]; first | rfl | (simp [errW_none, errW_some] <;> rfl)) | (simp [*, errW_none, errW_some] <;> rfl), by repeat (first | (with_reducible first | exact HB.out | apply below_alloc | apply pw_below_drewN | apply below_drew1 | refine below_set ?_ GE338.out) | exact HB.out)⟩
     ·
      rw [if_neg c11] at H
      have c11b0 : ((rd t339 (ji8)) == a2) = false := beq_eq_false_iff_ne.mpr c11
      have c11b1 : ((rd t339 (ji8)) != a2) = true := bne_iff_ne.mpr c11
      obtain rfl := Option.some.inj H
      go_enter Try.func30, Try.ntmps30
      go_wp2_with (first | ((with_reducible refine gate_dst (N := 4) rfl ?_); (try (refine gate_guard (by rfl) ?_; dsimp only)); refine box_event ?hg (N := 4) ?hd (cs := #[.int .i64 a0_0, .slice A0_1 l0_1.length c0_1]) (t := 24) ?hr ?_; (case hd => rfl); (case hg => rfl); (case hr => first | (go_simp; done) | (go_simp; rfl)); intro gb338 hg w17 hbox hb; have n0_ := Aside0.mk (below_step (by repeat (first | (with_reducible first | exact HB.out | apply below_alloc | apply pw_below_drewN | apply below_drew1) | exact HB.out)) hb); have n1_ := Aside0.mk (hbox); have n2_ := Aside0.mk ((by rw [hg]; exact (below_size (by repeat (first | (with_reducible first | exact HB.out | apply below_alloc | apply pw_below_drewN | apply below_drew1) | exact HB.out))) : w.heap.size ≤ gb338)); have n3_ := Aside0.mk ((by rw [hg]; exact (below_size (by repeat (first | (with_reducible first | exact HB.out | apply below_alloc | apply pw_below_drewN | apply below_drew1) | exact HB.out))) : w.heap.size ≤ gb338)); clear HB; have HB := n0_; have BK338 := n1_; have GW338 := n2_; have GE338 := n3_; clear n0_ n1_ n2_ n3_; clear hb hbox hg; have hcz18_0 := blk_at BK338.out 0; have hcz18_1 := blk_at BK338.out 1; have hfz18_0 := blk_frozen BK338.out 0; have hfz18_1 := blk_frozen BK338.out 1) | ((with_reducible refine gate_callee (f := 45) rfl ?_); refine goesL_ (some 15) rfl rfl Try.func45 (by kernel_rfl) rfl #[.agg #[.int .i64 a0_0, .slice A0_1 l0_1.length c0_1], .int .i64 a1, .slice A3 l3.length c3] rfl (by (try simp only [List.map_toArray, List.map_cons, List.map_nil]); first | done | rfl | (simp only [List.length_drop, List.length_take]; rfl)) ?_; (with_reducible refine (tollbarref4_Walk.calls k a0_0 _ _ l0_1 a1 _ _ l3 t339 t342 _ ?side1 ?side2 ?side3 ?side4 A5.out).mono ?_); (case side1 => repeat (first | exact (Kd.C_below HR0_1.out HB.out) | (with_reducible refine Kd.C_alloc ?_ _) | (with_reducible refine Kd.C_drewN ?_ _) | (with_reducible refine Kd.C_drew ?_))); (case side2 => exact HC0_1.out); (case side3 => repeat (first | exact (Kd.C_below HR3.out HB.out) | (with_reducible refine Kd.C_alloc ?_ _) | (with_reducible refine Kd.C_drewN ?_ _) | (with_reducible refine Kd.C_drew ?_))); (case side4 => exact HC3.out); rintro e w19 ⟨v340, rfl, ho0, hb⟩; refine ⟨_, rfl, ?_⟩; have n0_ := Aside0.mk (Kd.R_lower ho0 (below_size (by repeat (first | (with_reducible first | exact HB.out | apply below_alloc | apply pw_below_drewN | apply below_drew1 | refine below_set ?_ GE338.out) | exact HB.out)))); have n1_ := Aside0.mk (blk_below (g := gb338) (o := .cells #[.int .i64 a0_0, .slice A0_1 l0_1.length c0_1] 24 (0, 0)) (by (with_reducible repeat (first | refine blk_drewN ?_ _ | refine blk_drew ?_ | refine blk_alloc ?_ _)); exact BK338.out) hb); have n2_ := Aside0.mk (below_step (by repeat (first | (with_reducible first | exact HB.out | apply below_alloc | apply pw_below_drewN | apply below_drew1 | refine below_set ?_ GE338.out) | exact HB.out)) hb); clear BK338; clear HB; have HO341 := n0_; have BK338 := n1_; have HB := n2_; clear n0_ n1_ n2_; (try clear hb); (try clear hb2); (try clear hk); (try clear hi); (try clear ho0); obtain ⟨Ao20, co20, eo20⟩ := Kd.R_slice HO341.out; subst eo20; have p343 : 0 ≤ ((ji8) : Int) := od; have q343 : (ji8) < (t339.length : Int) := od; obtain ⟨ad343, e343, hx343_0⟩ := Kd.at_int (Kd.R_reads' HO341.out).2.2 (ji8) p343 q343; cases e343; replace p343 := eq_true p343; replace q343 := eq_true q343))
      go_ret
      exact ⟨by first | rfl | (simp [errW_none, errW_some] <;> rfl) | (simp only [← hji8]; first | rfl | (simp [errW_none, errW_some] <;> rfl)) | (simp [*, errW_none, errW_some] <;> rfl), by repeat (first | (with_reducible first | exact HB.out | apply below_alloc | apply pw_below_drewN | apply below_drew1 | refine below_set ?_ GE338.out) | exact HB.out)⟩
    ·
     rw [if_neg c10] at H
     exact absurd H (by simp)
   ·
    rw [if_neg c9] at H
    exact absurd H (by simp)
  ·
   rw [if_neg c7] at H
   have c7b0 : decide (0 < (l3.length : Int)) = false := decide_eq_false c7
   have c7b1 : decide (0 < l3.length) = false := decide_eq_false (by omega)
   clear c7
   obtain rfl := Option.some.inj H
   go_enter Try.func30, Try.ntmps30
   go_wp2_with (first | ((with_reducible refine gate_dst (N := 4) rfl ?_); (try (refine gate_guard (by rfl) ?_; dsimp only)); refine box_event ?hg (N := 4) ?hd (cs := #[.int .i64 a0_0, .slice A0_1 l0_1.length c0_1]) (t := 24) ?hr ?_; (case hd => rfl); (case hg => rfl); (case hr => first | (go_simp; done) | (go_simp; rfl)); intro gb338 hg w21 hbox hb; have n0_ := Aside0.mk (below_step (by repeat (first | (with_reducible first | exact HB.out | apply below_alloc | apply pw_below_drewN | apply below_drew1) | exact HB.out)) hb); have n1_ := Aside0.mk (hbox); have n2_ := Aside0.mk ((by rw [hg]; exact (below_size (by repeat (first | (with_reducible first | exact HB.out | apply below_alloc | apply pw_below_drewN | apply below_drew1) | exact HB.out))) : w.heap.size ≤ gb338)); have n3_ := Aside0.mk ((by rw [hg]; exact (below_size (by repeat (first | (with_reducible first | exact HB.out | apply below_alloc | apply pw_below_drewN | apply below_drew1) | exact HB.out))) : w.heap.size ≤ gb338)); clear HB; have HB := n0_; have BK338 := n1_; have GW338 := n2_; have GE338 := n3_; clear n0_ n1_ n2_ n3_; clear hb hbox hg; have hcz22_0 := blk_at BK338.out 0; have hcz22_1 := blk_at BK338.out 1; have hfz22_0 := blk_frozen BK338.out 0; have hfz22_1 := blk_frozen BK338.out 1) | ((with_reducible refine gate_callee (f := 45) rfl ?_); refine goesL_ (some 15) rfl rfl Try.func45 (by kernel_rfl) rfl #[.agg #[.int .i64 a0_0, .slice A0_1 l0_1.length c0_1], .int .i64 a1, .slice A3 l3.length c3] rfl (by (try simp only [List.map_toArray, List.map_cons, List.map_nil]); first | done | rfl | (simp only [List.length_drop, List.length_take]; rfl)) ?_; (with_reducible refine (tollbarref4_Walk.calls k a0_0 _ _ l0_1 a1 _ _ l3 t339 t342 _ ?side1 ?side2 ?side3 ?side4 A5.out).mono ?_); (case side1 => repeat (first | exact (Kd.C_below HR0_1.out HB.out) | (with_reducible refine Kd.C_alloc ?_ _) | (with_reducible refine Kd.C_drewN ?_ _) | (with_reducible refine Kd.C_drew ?_))); (case side2 => exact HC0_1.out); (case side3 => repeat (first | exact (Kd.C_below HR3.out HB.out) | (with_reducible refine Kd.C_alloc ?_ _) | (with_reducible refine Kd.C_drewN ?_ _) | (with_reducible refine Kd.C_drew ?_))); (case side4 => exact HC3.out); rintro e w23 ⟨v340, rfl, ho0, hb⟩; refine ⟨_, rfl, ?_⟩; have n0_ := Aside0.mk (Kd.R_lower ho0 (below_size (by repeat (first | (with_reducible first | exact HB.out | apply below_alloc | apply pw_below_drewN | apply below_drew1 | refine below_set ?_ GE338.out) | exact HB.out)))); have n1_ := Aside0.mk (blk_below (g := gb338) (o := .cells #[.int .i64 a0_0, .slice A0_1 l0_1.length c0_1] 24 (0, 0)) (by (with_reducible repeat (first | refine blk_drewN ?_ _ | refine blk_drew ?_ | refine blk_alloc ?_ _)); exact BK338.out) hb); have n2_ := Aside0.mk (below_step (by repeat (first | (with_reducible first | exact HB.out | apply below_alloc | apply pw_below_drewN | apply below_drew1 | refine below_set ?_ GE338.out) | exact HB.out)) hb); clear BK338; clear HB; have HO341 := n0_; have BK338 := n1_; have HB := n2_; clear n0_ n1_ n2_; (try clear hb); (try clear hb2); (try clear hk); (try clear hi); (try clear ho0)))
   go_ret
   exact ⟨by first | rfl | (simp [errW_none, errW_some] <;> rfl) | (simp [*, errW_none, errW_some] <;> rfl), by repeat (first | (with_reducible first | exact HB.out | apply below_alloc | apply pw_below_drewN | apply below_drew1 | refine below_set ?_ GE338.out) | exact HB.out)⟩
 ·
  rw [if_neg c6] at H
  have c6b0 : (t342 == 0) = false := beq_eq_false_iff_ne.mpr c6
  have c6b1 : (t342 != 0) = true := bne_iff_ne.mpr c6
  obtain rfl := Option.some.inj H
  go_enter Try.func30, Try.ntmps30
  go_wp2_with (first | ((with_reducible refine gate_dst (N := 4) rfl ?_); (try (refine gate_guard (by rfl) ?_; dsimp only)); refine box_event ?hg (N := 4) ?hd (cs := #[.int .i64 a0_0, .slice A0_1 l0_1.length c0_1]) (t := 24) ?hr ?_; (case hd => rfl); (case hg => rfl); (case hr => first | (go_simp; done) | (go_simp; rfl)); intro gb338 hg w24 hbox hb; have n0_ := Aside0.mk (below_step (by repeat (first | (with_reducible first | exact HB.out | apply below_alloc | apply pw_below_drewN | apply below_drew1) | exact HB.out)) hb); have n1_ := Aside0.mk (hbox); have n2_ := Aside0.mk ((by rw [hg]; exact (below_size (by repeat (first | (with_reducible first | exact HB.out | apply below_alloc | apply pw_below_drewN | apply below_drew1) | exact HB.out))) : w.heap.size ≤ gb338)); have n3_ := Aside0.mk ((by rw [hg]; exact (below_size (by repeat (first | (with_reducible first | exact HB.out | apply below_alloc | apply pw_below_drewN | apply below_drew1) | exact HB.out))) : w.heap.size ≤ gb338)); clear HB; have HB := n0_; have BK338 := n1_; have GW338 := n2_; have GE338 := n3_; clear n0_ n1_ n2_ n3_; clear hb hbox hg; have hcz25_0 := blk_at BK338.out 0; have hcz25_1 := blk_at BK338.out 1; have hfz25_0 := blk_frozen BK338.out 0; have hfz25_1 := blk_frozen BK338.out 1) | ((with_reducible refine gate_callee (f := 45) rfl ?_); refine goesL_ (some 15) rfl rfl Try.func45 (by kernel_rfl) rfl #[.agg #[.int .i64 a0_0, .slice A0_1 l0_1.length c0_1], .int .i64 a1, .slice A3 l3.length c3] rfl (by (try simp only [List.map_toArray, List.map_cons, List.map_nil]); first | done | rfl | (simp only [List.length_drop, List.length_take]; rfl)) ?_; (with_reducible refine (tollbarref4_Walk.calls k a0_0 _ _ l0_1 a1 _ _ l3 t339 t342 _ ?side1 ?side2 ?side3 ?side4 A5.out).mono ?_); (case side1 => repeat (first | exact (Kd.C_below HR0_1.out HB.out) | (with_reducible refine Kd.C_alloc ?_ _) | (with_reducible refine Kd.C_drewN ?_ _) | (with_reducible refine Kd.C_drew ?_))); (case side2 => exact HC0_1.out); (case side3 => repeat (first | exact (Kd.C_below HR3.out HB.out) | (with_reducible refine Kd.C_alloc ?_ _) | (with_reducible refine Kd.C_drewN ?_ _) | (with_reducible refine Kd.C_drew ?_))); (case side4 => exact HC3.out); rintro e w26 ⟨v340, rfl, ho0, hb⟩; refine ⟨_, rfl, ?_⟩; have n0_ := Aside0.mk (Kd.R_lower ho0 (below_size (by repeat (first | (with_reducible first | exact HB.out | apply below_alloc | apply pw_below_drewN | apply below_drew1 | refine below_set ?_ GE338.out) | exact HB.out)))); have n1_ := Aside0.mk (blk_below (g := gb338) (o := .cells #[.int .i64 a0_0, .slice A0_1 l0_1.length c0_1] 24 (0, 0)) (by (with_reducible repeat (first | refine blk_drewN ?_ _ | refine blk_drew ?_ | refine blk_alloc ?_ _)); exact BK338.out) hb); have n2_ := Aside0.mk (below_step (by repeat (first | (with_reducible first | exact HB.out | apply below_alloc | apply pw_below_drewN | apply below_drew1 | refine below_set ?_ GE338.out) | exact HB.out)) hb); clear BK338; clear HB; have HO341 := n0_; have BK338 := n1_; have HB := n2_; clear n0_ n1_ n2_; (try clear hb); (try clear hb2); (try clear hk); (try clear hi); (try clear ho0)))
  go_ret
  exact ⟨by first | rfl | (simp [errW_none, errW_some] <;> rfl) | (simp [*, errW_none, errW_some] <;> rfl), by repeat (first | (with_reducible first | exact HB.out | apply below_alloc | apply pw_below_drewN | apply below_drew1 | refine below_set ?_ GE338.out) | exact HB.out)⟩
mutual
def tollbarref4_BundleMay.j0 : Nat → Int → Int → Int → List (S48) → Bool → Int → List (S53) → Option (Bool)
 | 0, _, _, _, _, _, _, _ => none
 | k + 1, x1, x2, x3, x4, x33, x346000, x346001 => if x33 = true then (some false) else (tollbarref4_BundleMay.l0 k x1 x2 x3 x4 0 0 x346000 x346001)
def tollbarref4_BundleMay.l0 : Nat → Int → Int → Int → List (S48) → Int → Int → Int → List (S53) → Option (Bool)
 | 0, _, _, _, _, _, _, _, _ => none
 | k + 1, x1, x2, x3, x4, x11, x12, x346000, x346001 => if x12 < (x4.length : Int) then (if 0 ≤ x12 then (if ((rd_T48 x4 x12).f0) < 1 then (some false) else (if ((rd_T48 x4 x12).f0) > (wrap64 (x3 - x11)) then (some false) else ((tollbarref4_PathMay.f k x346000 x346001 x1 x2 ((rd_T48 x4 x12).f1)).bind fun t350 => (if t350 = true then (tollbarref4_BundleMay.l0 k x1 x2 x3 x4 (wrap64 (x11 + ((rd_T48 x4 x12).f0))) (wrap64 (x12 + 1)) x346000 x346001) else (some false))))) else (none)) else (some (x11 == x3))
end
def tollbarref4_BundleMay.f (k : Nat) (a0_0 : Int) (l0_1 : List (S53)) (a1 : Int) (a2 : Int) (a3 : Int) (l4 : List (S48)) : Option (Bool) := (tollbarref4_GraphMay.f k a0_0 l0_1).bind fun t346 => (if t346 = true then (if a3 < 1 then (tollbarref4_BundleMay.j0 k a1 a2 a3 l4 true a0_0 l0_1) else (if a3 > 4611686018427387904 then (tollbarref4_BundleMay.j0 k a1 a2 a3 l4 true a0_0 l0_1) else (if (l4.length : Int) < 1 then (tollbarref4_BundleMay.j0 k a1 a2 a3 l4 true a0_0 l0_1) else (tollbarref4_BundleMay.j0 k a1 a2 a3 l4 (decide ((l4.length : Int) > 16)) a0_0 l0_1)))) else (tollbarref4_BundleMay.j0 k a1 a2 a3 l4 true a0_0 l0_1))
def tollbarref4_BundleMay.T7 : Bool × List (List Nat × List Nat) := (true, [([], []), ([], []), ([0, 1], [0, 1]), ([2], [2]), ([3], [3]), ([4], [4]), ([5], [5]), ([6], [6]), ([6], [6]), ([7, 8, 6], [6, 7, 8]), ([9, 6], [6, 9]), ([10, 6], [6, 10]), ([6], [6]), ([6], [6]), ([12, 13, 6], [6, 12, 13]), ([11, 14, 6], [6, 11, 14]), ([6, 15], [6, 15]), ([16, 6], [16]), ([17], [17]), ([17], [17]), ([17], [17]), ([17], [17]), ([17], [17]), ([21, 22, 17], [17, 21, 22]), ([23, 17], [17, 23]), ([24, 17], [17, 24]), ([18, 19, 20, 25, 17, 17], [17, 18, 19, 20, 25]), ([26, 17], [17, 26]), ([17, 27], [17, 27])])
def tollbarref4_BundleMay.B7 : List Nat := [0, 0, 3, 7, 15, 31, 63, 127, 127, 511, 1023, 2047, 127, 127, 12415, 32767, 65535, 131071, 262143, 262143, 262143, 262143, 262143, 6553599, 14942207, 31719423, 67108863, 134217727, 268435455]
theorem tollbarref4_BundleMay.tab7 : rtab .any (opsOf Try.f14 7) = tollbarref4_BundleMay.T7 := by kernel_rfl
theorem tollbarref4_BundleMay.bits7 : waitsOk tollbarref4_BundleMay.T7.2 tollbarref4_BundleMay.B7 = true := by kernel_rfl
theorem tollbarref4_BundleMay.calls (k : Nat) (a0_0 : Int) (A0_1 : Option Addr) (c0_1 : Nat) (l0_1 : List (S53)) (a1 : Int) (a2 : Int) (a3 : Int) (A4 : Option Addr) (c4 : Nat) (l4 : List (S48)) (r : Bool) (w : World) (hr0_1 : Kd.C k53 w A0_1 l0_1.length l0_1) (hc0_1 : l0_1.length ≤ c0_1) (hr4 : Kd.C k48 w A4 l4.length l4) (hc4 : l4.length ≤ c4) (h : tollbarref4_BundleMay.f k a0_0 l0_1 a1 a2 a3 l4 = some r) :
  Calls Try.prog 14 #[.agg #[.int .i64 a0_0, .slice A0_1 l0_1.length c0_1], .int .i64 a1, .int .i64 a2, .int .i64 a3, .slice A4 l4.length c4] w fun e w' => e = .returned (.bool r) ∧ Below w.heap.size w w' := by
 have hu24 := Try.underlying24
 have HR0_1 := Aside0.mk hr0_1
 have HC0_1 := Aside0.mk hc0_1
 clear hr0_1 hc0_1
 have HR4 := Aside0.mk hr4
 have HC4 := Aside0.mk hc4
 clear hr4 hc4
 have HB := Aside0.mk (Below.refl w.heap.size w)
 have H : ((tollbarref4_GraphMay.f k a0_0 l0_1).bind fun t346 => (if t346 = true then (if a3 < 1 then (tollbarref4_BundleMay.j0 k a1 a2 a3 l4 true a0_0 l0_1) else (if a3 > 4611686018427387904 then (tollbarref4_BundleMay.j0 k a1 a2 a3 l4 true a0_0 l0_1) else (if (l4.length : Int) < 1 then (tollbarref4_BundleMay.j0 k a1 a2 a3 l4 true a0_0 l0_1) else (tollbarref4_BundleMay.j0 k a1 a2 a3 l4 (decide ((l4.length : Int) > 16)) a0_0 l0_1)))) else (tollbarref4_BundleMay.j0 k a1 a2 a3 l4 true a0_0 l0_1))) = some r := h
 clear h
 have HC6 := Aside0.mk H
 clear H
 go_enter Try.func14, Try.ntmps14
 go_upto_region 1 with (first | ((with_reducible refine gate_dst (N := 5) rfl ?_); (try (refine gate_guard (by rfl) ?_; dsimp only)); refine box_event ?hg (N := 5) ?hd (cs := #[.int .i64 a0_0, .slice A0_1 l0_1.length c0_1]) (t := 24) ?hr ?_; (case hd => rfl); (case hg => rfl); (case hr => first | (go_simp; done) | (go_simp; rfl)); intro gb345 hg w7 hbox hb; have n0_ := Aside0.mk (below_step (by repeat (first | (with_reducible first | exact HB.out | apply below_alloc | apply pw_below_drewN | apply below_drew1) | exact HB.out)) hb); have n1_ := Aside0.mk (hbox); have n2_ := Aside0.mk ((by rw [hg]; exact (below_size (by repeat (first | (with_reducible first | exact HB.out | apply below_alloc | apply pw_below_drewN | apply below_drew1) | exact HB.out))) : w.heap.size ≤ gb345)); have n3_ := Aside0.mk ((by rw [hg]; exact (below_size (by repeat (first | (with_reducible first | exact HB.out | apply below_alloc | apply pw_below_drewN | apply below_drew1) | exact HB.out))) : w.heap.size ≤ gb345)); clear HB; have HB := n0_; have BK345 := n1_; have GW345 := n2_; have GE345 := n3_; clear n0_ n1_ n2_ n3_; clear hb hbox hg))
 (try simp only [Act.put, List.setIfInBounds_toArray, List.set_cons_zero, List.set_cons_succ])
 go_cut [33] (fun v33 wc => ∃ (kq : Nat) (x33_5 : Bool), v33 = .bool x33_5 ∧ Aside0 (tollbarref4_BundleMay.j0 kq a1 a2 a3 l4 x33_5 a0_0 l0_1 = some r) ∧ Aside0 (kq ≤ k) ∧ Aside0 (wc.heap[gb345]? = some (.cells #[.int .i64 a0_0, (.slice A0_1 l0_1.length c0_1)] 24 (0, 0))) ∧ Aside0 (Below w.heap.size w wc))
 case first =>
  have H := HC6.out
  clear HC6
  replace H := Option.bind_eq_some_iff.mp H
  obtain ⟨t346, A80, H⟩ := H
  replace H : (if t346 = true then (if a3 < 1 then (tollbarref4_BundleMay.j0 k a1 a2 a3 l4 true a0_0 l0_1) else (if a3 > 4611686018427387904 then (tollbarref4_BundleMay.j0 k a1 a2 a3 l4 true a0_0 l0_1) else (if (l4.length : Int) < 1 then (tollbarref4_BundleMay.j0 k a1 a2 a3 l4 true a0_0 l0_1) else (tollbarref4_BundleMay.j0 k a1 a2 a3 l4 (decide ((l4.length : Int) > 16)) a0_0 l0_1)))) else (tollbarref4_BundleMay.j0 k a1 a2 a3 l4 true a0_0 l0_1)) = some r := H
  have A8 := Aside0.mk A80
  clear A80
  by_cases c9 : t346 = true
  ·
   subst c9
   have H1 : (if a3 < 1 then (tollbarref4_BundleMay.j0 k a1 a2 a3 l4 true a0_0 l0_1) else (if a3 > 4611686018427387904 then (tollbarref4_BundleMay.j0 k a1 a2 a3 l4 true a0_0 l0_1) else (if (l4.length : Int) < 1 then (tollbarref4_BundleMay.j0 k a1 a2 a3 l4 true a0_0 l0_1) else (tollbarref4_BundleMay.j0 k a1 a2 a3 l4 (decide ((l4.length : Int) > 16)) a0_0 l0_1)))) = some r := by rw [if_pos rfl] at H; exact H
   clear H
   have H := H1
   clear H1
   by_cases c10 : a3 < 1
   ·
    rw [if_pos c10] at H
    have c10b0 : decide (a3 < 1) = true := decide_eq_true c10
    clear c10
    (first | rw [c10b0] | (simp only [i64_w, i32_w]; rw [c10b0]) | skip)
    have H' := Aside0.mk H
    clear H
    have hcz11_0 := blk_at BK345.out 0
    have hcz11_1 := blk_at BK345.out 1
    have hfz11_0 := blk_frozen BK345.out 0
    have hfz11_1 := blk_frozen BK345.out 1
    go_wp2_with (first | ((with_reducible refine gate_callee (f := 29) rfl ?_); refine goesL_ (some 14) rfl rfl Try.func29 (by kernel_rfl) rfl #[.agg #[.int .i64 a0_0, .slice A0_1 l0_1.length c0_1]] rfl (by (try simp only [List.map_toArray, List.map_cons, List.map_nil]); first | done | rfl | (simp only [List.length_drop, List.length_take]; rfl)) ?_; (with_reducible refine (tollbarref4_GraphMay.calls k a0_0 _ _ l0_1 true _ ?side1 ?side2 A8.out).mono ?_); (case side1 => repeat (first | exact (Kd.C_below HR0_1.out HB.out) | (with_reducible refine Kd.C_alloc ?_ _) | (with_reducible refine Kd.C_drewN ?_ _) | (with_reducible refine Kd.C_drew ?_))); (case side2 => exact HC0_1.out); rintro e w12 ⟨rfl, hb⟩; refine ⟨_, rfl, ?_⟩; have n0_ := Aside0.mk (blk_below (g := gb345) (o := .cells #[.int .i64 a0_0, .slice A0_1 l0_1.length c0_1] 24 (0, 0)) (by (with_reducible repeat (first | refine blk_drewN ?_ _ | refine blk_drew ?_ | refine blk_alloc ?_ _)); exact BK345.out) hb); have n1_ := Aside0.mk (below_step (by repeat (first | (with_reducible first | exact HB.out | apply below_alloc | apply pw_below_drewN | apply below_drew1 | refine below_set ?_ GE345.out) | exact HB.out)) hb); clear BK345; clear HB; have BK345 := n0_; have HB := n1_; clear n0_ n1_; (try clear hb); (try clear hb2); (try clear hk); (try clear hi)))
    go_meet
    case rel => exact ⟨_, (true), (by first | rfl | (simp; done) | (simp [*]; done)), H', ⟨by first | omega | exact Nat.le_refl _⟩, ⟨by (with_reducible repeat (first | refine blk_drewN ?_ _ | refine blk_drew ?_ | refine blk_alloc ?_ _)); exact BK345.out⟩, ⟨by repeat (first | (with_reducible first | exact HB.out | apply below_alloc | apply pw_below_drewN | apply below_drew1 | refine below_set ?_ GE345.out) | exact HB.out)⟩⟩
   ·
    rw [if_neg c10] at H
    have c10b0 : decide (a3 < 1) = false := decide_eq_false c10
    clear c10
    (first | rw [c10b0] | (simp only [i64_w, i32_w]; rw [c10b0]) | skip)
    by_cases c13 : a3 > 4611686018427387904
    ·
     rw [if_pos c13] at H
     have c13b0 : decide (4611686018427387904 < a3) = true := decide_eq_true c13
     clear c13
     have H' := Aside0.mk H
     clear H
     have hcz14_0 := blk_at BK345.out 0
     have hcz14_1 := blk_at BK345.out 1
     have hfz14_0 := blk_frozen BK345.out 0
     have hfz14_1 := blk_frozen BK345.out 1
     go_wp2_with (first | ((with_reducible refine gate_callee (f := 29) rfl ?_); refine goesL_ (some 14) rfl rfl Try.func29 (by kernel_rfl) rfl #[.agg #[.int .i64 a0_0, .slice A0_1 l0_1.length c0_1]] rfl (by (try simp only [List.map_toArray, List.map_cons, List.map_nil]); first | done | rfl | (simp only [List.length_drop, List.length_take]; rfl)) ?_; (with_reducible refine (tollbarref4_GraphMay.calls k a0_0 _ _ l0_1 true _ ?side1 ?side2 A8.out).mono ?_); (case side1 => repeat (first | exact (Kd.C_below HR0_1.out HB.out) | (with_reducible refine Kd.C_alloc ?_ _) | (with_reducible refine Kd.C_drewN ?_ _) | (with_reducible refine Kd.C_drew ?_))); (case side2 => exact HC0_1.out); rintro e w15 ⟨rfl, hb⟩; refine ⟨_, rfl, ?_⟩; have n0_ := Aside0.mk (blk_below (g := gb345) (o := .cells #[.int .i64 a0_0, .slice A0_1 l0_1.length c0_1] 24 (0, 0)) (by (with_reducible repeat (first | refine blk_drewN ?_ _ | refine blk_drew ?_ | refine blk_alloc ?_ _)); exact BK345.out) hb); have n1_ := Aside0.mk (below_step (by repeat (first | (with_reducible first | exact HB.out | apply below_alloc | apply pw_below_drewN | apply below_drew1 | refine below_set ?_ GE345.out) | exact HB.out)) hb); clear BK345; clear HB; have BK345 := n0_; have HB := n1_; clear n0_ n1_; (try clear hb); (try clear hb2); (try clear hk); (try clear hi)))
     go_meet
     case rel => exact ⟨_, (true), (by first | rfl | (simp; done) | (simp [*]; done)), H', ⟨by first | omega | exact Nat.le_refl _⟩, ⟨by (with_reducible repeat (first | refine blk_drewN ?_ _ | refine blk_drew ?_ | refine blk_alloc ?_ _)); exact BK345.out⟩, ⟨by repeat (first | (with_reducible first | exact HB.out | apply below_alloc | apply pw_below_drewN | apply below_drew1 | refine below_set ?_ GE345.out) | exact HB.out)⟩⟩
    ·
     rw [if_neg c13] at H
     have c13b0 : decide (4611686018427387904 < a3) = false := decide_eq_false c13
     clear c13
     by_cases c16 : (l4.length : Int) < 1
     ·
      rw [if_pos c16] at H
      have c16b0 : decide ((l4.length : Int) < 1) = true := decide_eq_true c16
      have c16b1 : decide (l4.length < 1) = true := decide_eq_true (by omega)
      clear c16
      have H' := Aside0.mk H
      clear H
      have hcz17_0 := blk_at BK345.out 0
      have hcz17_1 := blk_at BK345.out 1
      have hfz17_0 := blk_frozen BK345.out 0
      have hfz17_1 := blk_frozen BK345.out 1
      go_wp2_with (first | ((with_reducible refine gate_callee (f := 29) rfl ?_); refine goesL_ (some 14) rfl rfl Try.func29 (by kernel_rfl) rfl #[.agg #[.int .i64 a0_0, .slice A0_1 l0_1.length c0_1]] rfl (by (try simp only [List.map_toArray, List.map_cons, List.map_nil]); first | done | rfl | (simp only [List.length_drop, List.length_take]; rfl)) ?_; (with_reducible refine (tollbarref4_GraphMay.calls k a0_0 _ _ l0_1 true _ ?side1 ?side2 A8.out).mono ?_); (case side1 => repeat (first | exact (Kd.C_below HR0_1.out HB.out) | (with_reducible refine Kd.C_alloc ?_ _) | (with_reducible refine Kd.C_drewN ?_ _) | (with_reducible refine Kd.C_drew ?_))); (case side2 => exact HC0_1.out); rintro e w18 ⟨rfl, hb⟩; refine ⟨_, rfl, ?_⟩; have n0_ := Aside0.mk (blk_below (g := gb345) (o := .cells #[.int .i64 a0_0, .slice A0_1 l0_1.length c0_1] 24 (0, 0)) (by (with_reducible repeat (first | refine blk_drewN ?_ _ | refine blk_drew ?_ | refine blk_alloc ?_ _)); exact BK345.out) hb); have n1_ := Aside0.mk (below_step (by repeat (first | (with_reducible first | exact HB.out | apply below_alloc | apply pw_below_drewN | apply below_drew1 | refine below_set ?_ GE345.out) | exact HB.out)) hb); clear BK345; clear HB; have BK345 := n0_; have HB := n1_; clear n0_ n1_; (try clear hb); (try clear hb2); (try clear hk); (try clear hi)))
      go_meet
      case rel => exact ⟨_, (true), (by first | rfl | (simp; done) | (simp [*]; done)), H', ⟨by first | omega | exact Nat.le_refl _⟩, ⟨by (with_reducible repeat (first | refine blk_drewN ?_ _ | refine blk_drew ?_ | refine blk_alloc ?_ _)); exact BK345.out⟩, ⟨by repeat (first | (with_reducible first | exact HB.out | apply below_alloc | apply pw_below_drewN | apply below_drew1 | refine below_set ?_ GE345.out) | exact HB.out)⟩⟩
     ·
      rw [if_neg c16] at H
      have c16b0 : decide ((l4.length : Int) < 1) = false := decide_eq_false c16
      have c16b1 : decide (l4.length < 1) = false := decide_eq_false (by omega)
      clear c16
      have H' := Aside0.mk H
      clear H
      have hcz19_0 := blk_at BK345.out 0
      have hcz19_1 := blk_at BK345.out 1
      have hfz19_0 := blk_frozen BK345.out 0
      have hfz19_1 := blk_frozen BK345.out 1
      go_wp2_with (first | ((with_reducible refine gate_callee (f := 29) rfl ?_); refine goesL_ (some 14) rfl rfl Try.func29 (by kernel_rfl) rfl #[.agg #[.int .i64 a0_0, .slice A0_1 l0_1.length c0_1]] rfl (by (try simp only [List.map_toArray, List.map_cons, List.map_nil]); first | done | rfl | (simp only [List.length_drop, List.length_take]; rfl)) ?_; (with_reducible refine (tollbarref4_GraphMay.calls k a0_0 _ _ l0_1 true _ ?side1 ?side2 A8.out).mono ?_); (case side1 => repeat (first | exact (Kd.C_below HR0_1.out HB.out) | (with_reducible refine Kd.C_alloc ?_ _) | (with_reducible refine Kd.C_drewN ?_ _) | (with_reducible refine Kd.C_drew ?_))); (case side2 => exact HC0_1.out); rintro e w20 ⟨rfl, hb⟩; refine ⟨_, rfl, ?_⟩; have n0_ := Aside0.mk (blk_below (g := gb345) (o := .cells #[.int .i64 a0_0, .slice A0_1 l0_1.length c0_1] 24 (0, 0)) (by (with_reducible repeat (first | refine blk_drewN ?_ _ | refine blk_drew ?_ | refine blk_alloc ?_ _)); exact BK345.out) hb); have n1_ := Aside0.mk (below_step (by repeat (first | (with_reducible first | exact HB.out | apply below_alloc | apply pw_below_drewN | apply below_drew1 | refine below_set ?_ GE345.out) | exact HB.out)) hb); clear BK345; clear HB; have BK345 := n0_; have HB := n1_; clear n0_ n1_; (try clear hb); (try clear hb2); (try clear hk); (try clear hi)))
      go_meet
      case rel => exact ⟨_, (decide ((l4.length : Int) > 16)), (by first | rfl | (simp; done) | (simp [*]; done)), H', ⟨by first | omega | exact Nat.le_refl _⟩, ⟨by (with_reducible repeat (first | refine blk_drewN ?_ _ | refine blk_drew ?_ | refine blk_alloc ?_ _)); exact BK345.out⟩, ⟨by repeat (first | (with_reducible first | exact HB.out | apply below_alloc | apply pw_below_drewN | apply below_drew1 | refine below_set ?_ GE345.out) | exact HB.out)⟩⟩
  ·
   replace c9 := Bool.eq_false_iff.mpr c9
   subst c9
   have H1 : (tollbarref4_BundleMay.j0 k a1 a2 a3 l4 true a0_0 l0_1) = some r := by rw [if_neg (show ¬ (false = true) by decide)] at H; exact H
   clear H
   have H := H1
   clear H1
   have H' := Aside0.mk H
   clear H
   have hcz21_0 := blk_at BK345.out 0
   have hcz21_1 := blk_at BK345.out 1
   have hfz21_0 := blk_frozen BK345.out 0
   have hfz21_1 := blk_frozen BK345.out 1
   go_wp2_with (first | ((with_reducible refine gate_callee (f := 29) rfl ?_); refine goesL_ (some 14) rfl rfl Try.func29 (by kernel_rfl) rfl #[.agg #[.int .i64 a0_0, .slice A0_1 l0_1.length c0_1]] rfl (by (try simp only [List.map_toArray, List.map_cons, List.map_nil]); first | done | rfl | (simp only [List.length_drop, List.length_take]; rfl)) ?_; (with_reducible refine (tollbarref4_GraphMay.calls k a0_0 _ _ l0_1 false _ ?side1 ?side2 A8.out).mono ?_); (case side1 => repeat (first | exact (Kd.C_below HR0_1.out HB.out) | (with_reducible refine Kd.C_alloc ?_ _) | (with_reducible refine Kd.C_drewN ?_ _) | (with_reducible refine Kd.C_drew ?_))); (case side2 => exact HC0_1.out); rintro e w22 ⟨rfl, hb⟩; refine ⟨_, rfl, ?_⟩; have n0_ := Aside0.mk (blk_below (g := gb345) (o := .cells #[.int .i64 a0_0, .slice A0_1 l0_1.length c0_1] 24 (0, 0)) (by (with_reducible repeat (first | refine blk_drewN ?_ _ | refine blk_drew ?_ | refine blk_alloc ?_ _)); exact BK345.out) hb); have n1_ := Aside0.mk (below_step (by repeat (first | (with_reducible first | exact HB.out | apply below_alloc | apply pw_below_drewN | apply below_drew1 | refine below_set ?_ GE345.out) | exact HB.out)) hb); clear BK345; clear HB; have BK345 := n0_; have HB := n1_; clear n0_ n1_; (try clear hb); (try clear hb2); (try clear hk); (try clear hi)))
   go_meet
   case rel => exact ⟨_, (true), (by first | rfl | (simp; done) | (simp [*]; done)), H', ⟨by first | omega | exact Nat.le_refl _⟩, ⟨by (with_reducible repeat (first | refine blk_drewN ?_ _ | refine blk_drew ?_ | refine blk_alloc ?_ _)); exact BK345.out⟩, ⟨by repeat (first | (with_reducible first | exact HB.out | apply below_alloc | apply pw_below_drewN | apply below_drew1 | refine below_set ?_ GE345.out) | exact HB.out)⟩⟩
 case rest =>
  clear HC6
  try clear c1
  try clear c2
  try clear p2
  try clear c4
  try clear c9
  try clear c10
  try clear c10b0
  try clear c13
  try clear c13b0
  try clear c14
  try clear c16
  try clear c16b0
  try clear c16b1
  try clear hcz11_0
  try clear hcz11_1
  try clear hcz14_0
  try clear hcz14_1
  try clear hcz17_0
  try clear hcz17_1
  try clear hcz19_0
  try clear hcz19_1
  try clear hcz21_0
  try clear hcz21_1
  try clear hfz11_0
  try clear hfz11_1
  try clear hfz14_0
  try clear hfz14_1
  try clear hfz17_0
  try clear hfz17_1
  try clear hfz19_0
  try clear hfz19_1
  try clear hfz21_0
  try clear hfz21_1
  obtain ⟨kq, x33_5, rfl, HA, HJ5, BK345, HB⟩ := hcut
  cases kq with
  | zero => exact absurd HA.out (by simp [tollbarref4_BundleMay.j0])
  | succ kj5 =>
   have H := HA.out
   clear HA
   simp only [tollbarref4_BundleMay.j0] at H
   by_cases c23 : x33_5 = true
   ·
    subst c23
    have H1 : (some false) = some r := by rw [if_pos rfl] at H; exact H
    clear H
    have H := H1
    clear H1
    obtain rfl := Option.some.inj H
    go_wp2
    go_ret
    exact ⟨by first | rfl | (simp [errW_none, errW_some] <;> rfl) | (simp [*, errW_none, errW_some] <;> rfl), by repeat (first | (with_reducible first | exact HB.out | apply below_alloc | apply pw_below_drewN | apply below_drew1 | refine below_set ?_ GE345.out) | exact HB.out)⟩
   ·
    replace c23 := Bool.eq_false_iff.mpr c23
    subst c23
    have H1 : (tollbarref4_BundleMay.l0 kj5 a1 a2 a3 l4 0 0 a0_0 l0_1) = some r := by rw [if_neg (show ¬ (false = true) by decide)] at H; exact H
    clear H
    have H := H1
    clear H1
    have H' := Aside0.mk H
    clear H
    go_wp2
    go_loopg [11, 12] kj5 (fun kq v11 v12 w' => ∃ (x11_2 : Int) (x12_2 : Int), v11 = .int .i64 x11_2 ∧ v12 = .int .i64 x12_2 ∧ Aside0 (tollbarref4_BundleMay.l0 kq a1 a2 a3 l4 x11_2 x12_2 a0_0 l0_1 = some r) ∧ Aside0 (kq ≤ kj5) ∧ Aside0 (w'.heap[gb345]? = some (.cells #[.int .i64 a0_0, (.slice A0_1 l0_1.length c0_1)] 24 (0, 0))) ∧ Aside0 (Below w.heap.size w w'))
    case atStart => exact ⟨(0), (0), (by first | rfl | (simp; done) | (simp [*]; done)), (by first | rfl | (simp; done) | (simp [*]; done)), H', ⟨Nat.le_refl _⟩, ⟨by (with_reducible repeat (first | refine blk_drewN ?_ _ | refine blk_drew ?_ | refine blk_alloc ?_ _)); exact BK345.out⟩, ⟨by repeat (first | (with_reducible first | exact HB.out | apply below_alloc | apply pw_below_drewN | apply below_drew1 | refine below_set ?_ GE345.out) | exact HB.out)⟩⟩
    case round =>
     clear H'
     try clear c1
     try clear c2
     try clear p2
     try clear c4
     try clear c9
     try clear c10
     try clear c10b0
     try clear c13
     try clear c13b0
     try clear c14
     try clear c16
     try clear c16b0
     try clear c16b1
     try clear c23
     try clear hcz11_0
     try clear hcz11_1
     try clear hcz14_0
     try clear hcz14_1
     try clear hcz17_0
     try clear hcz17_1
     try clear hcz19_0
     try clear hcz19_1
     try clear hcz21_0
     try clear hcz21_1
     try clear hfz11_0
     try clear hfz11_1
     try clear hfz14_0
     try clear hfz14_1
     try clear hfz17_0
     try clear hfz17_1
     try clear hfz19_0
     try clear hfz19_1
     try clear hfz21_0
     try clear hfz21_1
     try clear p2
     obtain ⟨x11_2, x12_2, rfl, rfl, HA, HK2, BK345, HB⟩ := hrel
     cases gk with
     | zero => exact absurd HA.out (by simp [tollbarref4_BundleMay.l0])
     | succ k2 =>
      have H := HA.out
      clear HA
      simp only [tollbarref4_BundleMay.l0] at H
      by_cases c24 : x12_2 < (l4.length : Int)
      ·
       rw [if_pos c24] at H
       have c24b0 : decide (x12_2 < (l4.length : Int)) = true := decide_eq_true c24
       clear c24
       by_cases c25 : 0 ≤ x12_2
       ·
        rw [if_pos c25] at H
        have c25b0 : decide (0 ≤ x12_2) = true := decide_eq_true c25
        clear c25
        by_cases c26 : ((rd_T48 l4 x12_2).f0) < 1
        ·
         rw [if_pos c26] at H
         have c26b0 : decide (((rd_T48 l4 x12_2).f0) < 1) = true := decide_eq_true c26
         clear c26
         obtain rfl := Option.some.inj H
         try go_wp2
         have n0_ := Aside0.mk (blk_drew BK345.out)
         have n1_ := Aside0.mk (below_drew1 HB.out)
         clear BK345
         clear HB
         have BK345 := n0_
         have HB := n1_
         clear n0_ n1_
         have p347 : 0 ≤ (x12_2 : Int) := od
         have q347 : x12_2 < (l4.length : Int) := od
         obtain ⟨ad347, A347_1, c347_1, e347, hx347_0, hx347_1, hl347_1, hi347_1⟩ := at_T48 HR4.out x12_2 p347 q347
         have hw347_1 := hx347_1
         have hw347_0 := hx347_0
         cases e347
         replace hx347_0 := (HB.out.cell (World.block_lt_of_cell? w _ hx347_0)).trans hx347_0
         replace hx347_1 := (HB.out.cell (World.block_lt_of_cell? w _ hx347_1)).trans hx347_1
         have HR347_1 := Aside0.mk hi347_1
         have HC347_1 := Aside0.mk hl347_1
         clear hi347_1 hl347_1
         replace p347 := eq_true p347
         replace q347 := eq_true q347
         refine start_ (n := 29) (S := fun w' => w'.cell? (ad347.add ((x12_2).toNat * 2)) = some (.int .i64 ((rd_T48 l4 x12_2).f0)) ∧ w'.cell? ⟨(ad347.add ((x12_2).toNat * 2)).block, (ad347.add ((x12_2).toNat * 2)).off + 1, none⟩ = some (.slice A347_1 ((rd_T48 l4 x12_2).f1).length c347_1)) (ds := []) (mk 29 0) (by kernel_rfl) rfl (by kernel_rfl) ⟨((HB.out.cell (World.block_lt_of_cell? w _ hw347_0)).trans hw347_0), ((HB.out.cell (World.block_lt_of_cell? w _ hw347_1)).trans hw347_1)⟩ (fun hHeld => ?_); refine with_tabW tollbarref4_BundleMay.tab7 tollbarref4_BundleMay.bits7 (fun HT_ HW_ => ?_)
         generalize wr.drew = w27 at BK345 HB HR347_1 hx347_0 hx347_1 hHeld ⊢
         refine pu 0 40 (mk 29 1) HT_ ?_
         refine pu 1 41 (mk 29 3) HT_ ?_
         refine pu 2 42 (mk 29 7) HT_ ?_
         refine pu 3 43 (mk 29 15) HT_ ?_
         refine ta 4 44 (mk 29 31) rfl rfl HT_ HW_ hHeld (Or.inl ⟨by rfl, by rintro w' ⟨s0, s1⟩; go_simp; with_reducible rfl⟩) ?_
         refine pu 5 45 (mk 29 63) HT_ ?_
         refine pu 6 46 (mk 29 127) HT_ ?_
         refine po 7 47 (mk 29 255) HT_ ?_
         refine po 8 48 (mk 29 511) HT_ ?_
         refine po 9 49 (mk 29 1023) HT_ ?_
         refine po 10 50 (mk 29 2047) HT_ ?_
         refine po 11 51 (mk 29 4095) HT_ ?_
         refine po 12 52 (mk 29 8191) HT_ ?_
         refine po 13 53 (mk 29 16383) HT_ ?_
         refine po 14 54 (mk 29 32767) HT_ ?_
         refine po 15 55 (mk 29 65535) HT_ ?_
         refine pu 16 56 (mk 29 131071) HT_ ?_
         refine pu 17 57 (mk 29 262143) HT_ ?_
         refine po 18 58 (mk 29 524287) HT_ ?_
         refine po 19 59 (mk 29 1048575) HT_ ?_
         refine po 20 60 (mk 29 2097151) HT_ ?_
         refine po 21 61 (mk 29 4194303) HT_ ?_
         refine po 22 62 (mk 29 8388607) HT_ ?_
         refine po 23 63 (mk 29 16777215) HT_ ?_
         refine po 24 64 (mk 29 33554431) HT_ ?_
         refine po 25 65 (mk 29 67108863) HT_ ?_
         refine po 26 66 (mk 29 134217727) HT_ ?_
         refine po 27 67 (mk 29 268435455) HT_ ?_
         refine pu 28 68 (mk 29 536870911) HT_ ?_
         refine done_ (done_of HT_.out (by kernel_rfl)) ?_
         try go_wp2
         go_ret
         exact ⟨by first | rfl | (simp [errW_none, errW_some] <;> rfl) | (simp [*, errW_none, errW_some] <;> rfl), by repeat (first | (with_reducible first | exact HB.out | apply below_alloc | apply pw_below_drewN | apply below_drew1 | refine below_set ?_ GE345.out) | exact HB.out)⟩
        ·
         rw [if_neg c26] at H
         have c26b0 : decide (((rd_T48 l4 x12_2).f0) < 1) = false := decide_eq_false c26
         clear c26
         by_cases c28 : ((rd_T48 l4 x12_2).f0) > (wrap64 (a3 - x11_2))
         ·
          rw [if_pos c28] at H
          have c28b0 : decide ((wrap64 (a3 - x11_2)) < ((rd_T48 l4 x12_2).f0)) = true := decide_eq_true c28
          clear c28
          obtain rfl := Option.some.inj H
          try go_wp2
          have n0_ := Aside0.mk (blk_drew BK345.out)
          have n1_ := Aside0.mk (below_drew1 HB.out)
          clear BK345
          clear HB
          have BK345 := n0_
          have HB := n1_
          clear n0_ n1_
          have p347 : 0 ≤ (x12_2 : Int) := od
          have q347 : x12_2 < (l4.length : Int) := od
          obtain ⟨ad347, A347_1, c347_1, e347, hx347_0, hx347_1, hl347_1, hi347_1⟩ := at_T48 HR4.out x12_2 p347 q347
          have hw347_1 := hx347_1
          have hw347_0 := hx347_0
          cases e347
          replace hx347_0 := (HB.out.cell (World.block_lt_of_cell? w _ hx347_0)).trans hx347_0
          replace hx347_1 := (HB.out.cell (World.block_lt_of_cell? w _ hx347_1)).trans hx347_1
          have HR347_1 := Aside0.mk hi347_1
          have HC347_1 := Aside0.mk hl347_1
          clear hi347_1 hl347_1
          replace p347 := eq_true p347
          replace q347 := eq_true q347
          have p348 : 0 ≤ (x12_2 : Int) := od
          have q348 : x12_2 < (l4.length : Int) := od
          obtain ⟨ad348, A348_1, c348_1, e348, hx348_0, hx348_1, hl348_1, hi348_1⟩ := at_T48 HR4.out x12_2 p348 q348
          have hw348_1 := hx348_1
          have hw348_0 := hx348_0
          obtain rfl : ad347 = ad348 := (by injection e348)
          replace hx348_0 := (HB.out.cell (World.block_lt_of_cell? w _ hx348_0)).trans hx348_0
          replace hx348_1 := (HB.out.cell (World.block_lt_of_cell? w _ hx348_1)).trans hx348_1
          have HR348_1 := Aside0.mk hi348_1
          have HC348_1 := Aside0.mk hl348_1
          clear hi348_1 hl348_1
          replace p348 := eq_true p348
          replace q348 := eq_true q348
          have ea_ := Option.some.inj (hx347_1.symm.trans hx348_1)
          injection ea_ with ea_ en_ ec_
          subst ea_
          subst ec_
          clear en_
          refine start_ (n := 29) (S := fun w' => w'.cell? (ad347.add ((x12_2).toNat * 2)) = some (.int .i64 ((rd_T48 l4 x12_2).f0)) ∧ w'.cell? ⟨(ad347.add ((x12_2).toNat * 2)).block, (ad347.add ((x12_2).toNat * 2)).off + 1, none⟩ = some (.slice A347_1 ((rd_T48 l4 x12_2).f1).length c347_1) ∧ w'.cell? (ad347.add ((x12_2).toNat * 2)) = some (.int .i64 ((rd_T48 l4 x12_2).f0)) ∧ w'.cell? ⟨(ad347.add ((x12_2).toNat * 2)).block, (ad347.add ((x12_2).toNat * 2)).off + 1, none⟩ = some (.slice A347_1 ((rd_T48 l4 x12_2).f1).length c347_1)) (ds := []) (mk 29 0) (by kernel_rfl) rfl (by kernel_rfl) ⟨((HB.out.cell (World.block_lt_of_cell? w _ hw347_0)).trans hw347_0), ((HB.out.cell (World.block_lt_of_cell? w _ hw347_1)).trans hw347_1), ((HB.out.cell (World.block_lt_of_cell? w _ hw348_0)).trans hw348_0), ((HB.out.cell (World.block_lt_of_cell? w _ hw348_1)).trans hw348_1)⟩ (fun hHeld => ?_); refine with_tabW tollbarref4_BundleMay.tab7 tollbarref4_BundleMay.bits7 (fun HT_ HW_ => ?_)
          generalize wr.drew = w29 at BK345 HB HR347_1 HR348_1 hx347_0 hx347_1 hx348_0 hx348_1 hHeld ⊢
          refine pu 0 40 (mk 29 1) HT_ ?_
          refine pu 1 41 (mk 29 3) HT_ ?_
          refine pu 2 42 (mk 29 7) HT_ ?_
          refine pu 3 43 (mk 29 15) HT_ ?_
          refine ta 4 44 (mk 29 31) rfl rfl HT_ HW_ hHeld (Or.inl ⟨by rfl, by rintro w' ⟨s0, s1, s2, s3⟩; go_simp; with_reducible rfl⟩) ?_
          refine pu 5 45 (mk 29 63) HT_ ?_
          refine pu 6 46 (mk 29 127) HT_ ?_
          refine pu 7 47 (mk 29 255) HT_ ?_
          refine pu 8 48 (mk 29 511) HT_ ?_
          refine pu 9 49 (mk 29 1023) HT_ ?_
          refine pu 10 50 (mk 29 2047) HT_ ?_
          refine pu 12 52 (mk 29 6143) HT_ ?_
          refine pu 13 53 (mk 29 14335) HT_ ?_
          refine pu 14 54 (mk 29 30719) HT_ ?_
          refine ta 11 51 (mk 29 32767) rfl rfl HT_ HW_ hHeld (Or.inl ⟨by rfl, by rintro w' ⟨s0, s1, s2, s3⟩; go_simp; with_reducible rfl⟩) ?_
          refine pu 15 55 (mk 29 65535) HT_ ?_
          refine pu 16 56 (mk 29 131071) HT_ ?_
          refine pu 17 57 (mk 29 262143) HT_ ?_
          refine po 18 58 (mk 29 524287) HT_ ?_
          refine po 19 59 (mk 29 1048575) HT_ ?_
          refine po 20 60 (mk 29 2097151) HT_ ?_
          refine po 21 61 (mk 29 4194303) HT_ ?_
          refine po 22 62 (mk 29 8388607) HT_ ?_
          refine po 23 63 (mk 29 16777215) HT_ ?_
          refine po 24 64 (mk 29 33554431) HT_ ?_
          refine po 25 65 (mk 29 67108863) HT_ ?_
          refine po 26 66 (mk 29 134217727) HT_ ?_
          refine po 27 67 (mk 29 268435455) HT_ ?_
          refine pu 28 68 (mk 29 536870911) HT_ ?_
          refine done_ (done_of HT_.out (by kernel_rfl)) ?_
          try go_wp2
          go_ret
          exact ⟨by first | rfl | (simp [errW_none, errW_some] <;> rfl) | (simp [*, errW_none, errW_some] <;> rfl), by repeat (first | (with_reducible first | exact HB.out | apply below_alloc | apply pw_below_drewN | apply below_drew1 | refine below_set ?_ GE345.out) | exact HB.out)⟩
         ·
          rw [if_neg c28] at H
          have c28b0 : decide ((wrap64 (a3 - x11_2)) < ((rd_T48 l4 x12_2).f0)) = false := decide_eq_false c28
          clear c28
          replace H := Option.bind_eq_some_iff.mp H
          obtain ⟨t350, A300, H⟩ := H
          replace H : (if t350 = true then (tollbarref4_BundleMay.l0 k2 a1 a2 a3 l4 (wrap64 (x11_2 + ((rd_T48 l4 x12_2).f0))) (wrap64 (x12_2 + 1)) a0_0 l0_1) else (some false)) = some r := H
          have A30 := Aside0.mk A300
          clear A300
          by_cases c31 : t350 = true
          ·
           subst c31
           have H1 : (tollbarref4_BundleMay.l0 k2 a1 a2 a3 l4 (wrap64 (x11_2 + ((rd_T48 l4 x12_2).f0))) (wrap64 (x12_2 + 1)) a0_0 l0_1) = some r := by rw [if_pos rfl] at H; exact H
           clear H
           have H := H1
           clear H1
           have H' := Aside0.mk H
           clear H
           try go_wp2
           have n0_ := Aside0.mk (blk_drew BK345.out)
           have n1_ := Aside0.mk (below_drew1 HB.out)
           clear BK345
           clear HB
           have BK345 := n0_
           have HB := n1_
           clear n0_ n1_
           have p347 : 0 ≤ (x12_2 : Int) := od
           have q347 : x12_2 < (l4.length : Int) := od
           obtain ⟨ad347, A347_1, c347_1, e347, hx347_0, hx347_1, hl347_1, hi347_1⟩ := at_T48 HR4.out x12_2 p347 q347
           have hw347_1 := hx347_1
           have hw347_0 := hx347_0
           cases e347
           replace hx347_0 := (HB.out.cell (World.block_lt_of_cell? w _ hx347_0)).trans hx347_0
           replace hx347_1 := (HB.out.cell (World.block_lt_of_cell? w _ hx347_1)).trans hx347_1
           have HR347_1 := Aside0.mk hi347_1
           have HC347_1 := Aside0.mk hl347_1
           clear hi347_1 hl347_1
           replace p347 := eq_true p347
           replace q347 := eq_true q347
           have p348 : 0 ≤ (x12_2 : Int) := od
           have q348 : x12_2 < (l4.length : Int) := od
           obtain ⟨ad348, A348_1, c348_1, e348, hx348_0, hx348_1, hl348_1, hi348_1⟩ := at_T48 HR4.out x12_2 p348 q348
           have hw348_1 := hx348_1
           have hw348_0 := hx348_0
           obtain rfl : ad347 = ad348 := (by injection e348)
           replace hx348_0 := (HB.out.cell (World.block_lt_of_cell? w _ hx348_0)).trans hx348_0
           replace hx348_1 := (HB.out.cell (World.block_lt_of_cell? w _ hx348_1)).trans hx348_1
           have HR348_1 := Aside0.mk hi348_1
           have HC348_1 := Aside0.mk hl348_1
           clear hi348_1 hl348_1
           replace p348 := eq_true p348
           replace q348 := eq_true q348
           have ea_ := Option.some.inj (hx347_1.symm.trans hx348_1)
           injection ea_ with ea_ en_ ec_
           subst ea_
           subst ec_
           clear en_
           have p349 : 0 ≤ (x12_2 : Int) := od
           have q349 : x12_2 < (l4.length : Int) := od
           obtain ⟨ad349, A349_1, c349_1, e349, hx349_0, hx349_1, hl349_1, hi349_1⟩ := at_T48 HR4.out x12_2 p349 q349
           have hw349_1 := hx349_1
           have hw349_0 := hx349_0
           obtain rfl : ad347 = ad349 := (by injection e349)
           replace hx349_0 := (HB.out.cell (World.block_lt_of_cell? w _ hx349_0)).trans hx349_0
           replace hx349_1 := (HB.out.cell (World.block_lt_of_cell? w _ hx349_1)).trans hx349_1
           have HR349_1 := Aside0.mk hi349_1
           have HC349_1 := Aside0.mk hl349_1
           clear hi349_1 hl349_1
           replace p349 := eq_true p349
           replace q349 := eq_true q349
           have ea_ := Option.some.inj (hx347_1.symm.trans hx349_1)
           injection ea_ with ea_ en_ ec_
           subst ea_
           subst ec_
           clear en_
           refine start_ (n := 29) (S := fun w' => w'.cell? ⟨gb345, 0, none⟩ = some (.int .i64 a0_0) ∧ w'.cell? ⟨gb345, 1, none⟩ = some (.slice A0_1 l0_1.length c0_1) ∧ w'.cell? (ad347.add ((x12_2).toNat * 2)) = some (.int .i64 ((rd_T48 l4 x12_2).f0)) ∧ w'.cell? ⟨(ad347.add ((x12_2).toNat * 2)).block, (ad347.add ((x12_2).toNat * 2)).off + 1, none⟩ = some (.slice A347_1 ((rd_T48 l4 x12_2).f1).length c347_1) ∧ w'.cell? (ad347.add ((x12_2).toNat * 2)) = some (.int .i64 ((rd_T48 l4 x12_2).f0)) ∧ w'.cell? ⟨(ad347.add ((x12_2).toNat * 2)).block, (ad347.add ((x12_2).toNat * 2)).off + 1, none⟩ = some (.slice A347_1 ((rd_T48 l4 x12_2).f1).length c347_1) ∧ w'.cell? (ad347.add ((x12_2).toNat * 2)) = some (.int .i64 ((rd_T48 l4 x12_2).f0)) ∧ w'.cell? ⟨(ad347.add ((x12_2).toNat * 2)).block, (ad347.add ((x12_2).toNat * 2)).off + 1, none⟩ = some (.slice A347_1 ((rd_T48 l4 x12_2).f1).length c347_1)) (ds := []) (mk 29 0) (by kernel_rfl) rfl (by kernel_rfl) ⟨(blk_cell BK345.out 0).trans rfl, (blk_cell BK345.out 1).trans rfl, ((HB.out.cell (World.block_lt_of_cell? w _ hw347_0)).trans hw347_0), ((HB.out.cell (World.block_lt_of_cell? w _ hw347_1)).trans hw347_1), ((HB.out.cell (World.block_lt_of_cell? w _ hw348_0)).trans hw348_0), ((HB.out.cell (World.block_lt_of_cell? w _ hw348_1)).trans hw348_1), ((HB.out.cell (World.block_lt_of_cell? w _ hw349_0)).trans hw349_0), ((HB.out.cell (World.block_lt_of_cell? w _ hw349_1)).trans hw349_1)⟩ (fun hHeld => ?_); refine with_tabW tollbarref4_BundleMay.tab7 tollbarref4_BundleMay.bits7 (fun HT_ HW_ => ?_)
           generalize wr.drew = w32 at BK345 HB HR347_1 HR348_1 HR349_1 hx347_0 hx347_1 hx348_0 hx348_1 hx349_0 hx349_1 hHeld ⊢
           refine pu 0 40 (mk 29 1) HT_ ?_
           refine pu 1 41 (mk 29 3) HT_ ?_
           refine pu 2 42 (mk 29 7) HT_ ?_
           refine pu 3 43 (mk 29 15) HT_ ?_
           refine ta 4 44 (mk 29 31) rfl rfl HT_ HW_ hHeld (Or.inl ⟨by rfl, by rintro w' ⟨s0, s1, s2, s3, s4, s5, s6, s7⟩; go_simp; with_reducible rfl⟩) ?_
           refine pu 5 45 (mk 29 63) HT_ ?_
           refine pu 6 46 (mk 29 127) HT_ ?_
           refine pu 7 47 (mk 29 255) HT_ ?_
           refine pu 8 48 (mk 29 511) HT_ ?_
           refine pu 9 49 (mk 29 1023) HT_ ?_
           refine pu 10 50 (mk 29 2047) HT_ ?_
           refine pu 12 52 (mk 29 6143) HT_ ?_
           refine pu 13 53 (mk 29 14335) HT_ ?_
           refine pu 14 54 (mk 29 30719) HT_ ?_
           refine ta 11 51 (mk 29 32767) rfl rfl HT_ HW_ hHeld (Or.inl ⟨by rfl, by rintro w' ⟨s0, s1, s2, s3, s4, s5, s6, s7⟩; go_simp; with_reducible rfl⟩) ?_
           refine pu 15 55 (mk 29 65535) HT_ ?_
           refine pu 16 56 (mk 29 131071) HT_ ?_
           refine pu 17 57 (mk 29 262143) HT_ ?_
           refine pu 19 59 (mk 29 786431) HT_ ?_
           refine pu 20 60 (mk 29 1835007) HT_ ?_
           refine pu 21 61 (mk 29 3932159) HT_ ?_
           refine pu 22 62 (mk 29 8126463) HT_ ?_
           refine pu 23 63 (mk 29 16515071) HT_ ?_
           refine pu 24 64 (mk 29 33292287) HT_ ?_
           refine ta 18 58 (mk 29 33554431) rfl rfl HT_ HW_ hHeld (Or.inl ⟨by rfl, by rintro w' ⟨s0, s1, s2, s3, s4, s5, s6, s7⟩; go_simp; with_reducible rfl⟩) ?_
           refine ta 25 65 (mk 29 67108863) rfl rfl HT_ HW_ hHeld (Or.inl ⟨by rfl, by rintro w' ⟨s0, s1, s2, s3, s4, s5, s6, s7⟩; go_simp; with_reducible rfl⟩) ?_
           refine one_ (i := 26) (N := some 66) (mk 29 134217727) rfl rfl (one_of HT_.out (by kernel_rfl)) (by decide) (fun K hK => ?_)
           refine goes_ Try.func30 (by kernel_rfl) rfl #[.agg #[.int .i64 a0_0, .slice A0_1 l0_1.length c0_1], .int .i64 a1, .int .i64 a2, .slice A347_1 ((rd_T48 l4 x12_2).f1).length c347_1] (by rfl) rfl rfl (by (try simp only [List.map_toArray, List.map_cons, List.map_nil]); first | done | rfl | (simp only [List.length_drop, List.length_take]; rfl)) ?_
           with_reducible refine (tollbarref4_PathMay.calls k2 a0_0 _ _ l0_1 a1 a2 _ _ ((rd_T48 l4 x12_2).f1) true _ ?side1 ?side2 ?side3 ?side4 A30.out).mono ?_
           (case side1 => repeat (first | exact (Kd.C_below HR0_1.out HB.out) | (with_reducible refine Kd.C_alloc ?_ _) | (with_reducible refine Kd.C_drewN ?_ _) | (with_reducible refine Kd.C_drew ?_)))
           (case side2 => exact HC0_1.out)
           (case side3 => repeat (first | exact (Kd.C_below HR349_1.out HB.out) | (with_reducible refine Kd.C_alloc ?_ _) | (with_reducible refine Kd.C_drewN ?_ _) | (with_reducible refine Kd.C_drew ?_)))
           (case side4 => exact HC349_1.out)
           rintro e w33 ⟨rfl, hb⟩
           refine ⟨_, rfl, ?_⟩
           have n0_ := Aside0.mk (blk_below (g := gb345) (o := .cells #[.int .i64 a0_0, .slice A0_1 l0_1.length c0_1] 24 (0, 0)) (by (with_reducible repeat (first | refine blk_drewN ?_ _ | refine blk_drew ?_ | refine blk_alloc ?_ _)); exact BK345.out) hb)
           have n1_ := Aside0.mk (below_step (by repeat (first | (with_reducible first | exact HB.out | apply below_alloc | apply pw_below_drewN | apply below_drew1 | refine below_set ?_ GE345.out) | exact HB.out)) hb)
           clear BK345
           clear HB
           have BK345 := n0_
           have HB := n1_
           clear n0_ n1_
           (try clear hb)
           (try clear hb2)
           (try clear hk)
           (try clear hi)
           refine hK.out _ _ ⟨(blk_cell BK345.out 0).trans rfl, (blk_cell BK345.out 1).trans rfl, ((HB.out.cell (World.block_lt_of_cell? w _ hw347_0)).trans hw347_0), ((HB.out.cell (World.block_lt_of_cell? w _ hw347_1)).trans hw347_1), ((HB.out.cell (World.block_lt_of_cell? w _ hw348_0)).trans hw348_0), ((HB.out.cell (World.block_lt_of_cell? w _ hw348_1)).trans hw348_1), ((HB.out.cell (World.block_lt_of_cell? w _ hw349_0)).trans hw349_0), ((HB.out.cell (World.block_lt_of_cell? w _ hw349_1)).trans hw349_1)⟩ (fun hHeld => ?_)
           clear hK K
           refine nq 66 ?_
           refine pu 27 67 (mk 29 268435455) HT_ ?_
           refine pu 28 68 (mk 29 536870911) HT_ ?_
           refine done_ (done_of HT_.out (by kernel_rfl)) ?_
           have p351 : 0 ≤ (x12_2 : Int) := od
           have q351 : x12_2 < (l4.length : Int) := od
           obtain ⟨ad351, A351_1, c351_1, e351, hx351_0, hx351_1, hl351_1, hi351_1⟩ := at_T48 HR4.out x12_2 p351 q351
           obtain rfl : ad347 = ad351 := (by injection e351)
           replace hx351_0 := (HB.out.cell (World.block_lt_of_cell? w _ hx351_0)).trans hx351_0
           replace hx351_1 := (HB.out.cell (World.block_lt_of_cell? w _ hx351_1)).trans hx351_1
           have HR351_1 := Aside0.mk hi351_1
           have HC351_1 := Aside0.mk hl351_1
           clear hi351_1 hl351_1
           replace p351 := eq_true p351
           replace q351 := eq_true q351
           try go_wp2
           go_roundg k2
           case measure => have := HJ5.out; have := HK2.out; omega
           case rel => exact ⟨(wrap64 (x11_2 + ((rd_T48 l4 x12_2).f0))), (wrap64 (x12_2 + 1)), (by first | rfl | (simp; done) | (simp [*]; done)), (by first | rfl | (simp; done) | (simp [*]; done)), H', ⟨by have := HJ5.out; have := HK2.out; omega⟩, ⟨by (with_reducible repeat (first | refine blk_drewN ?_ _ | refine blk_drew ?_ | refine blk_alloc ?_ _)); exact BK345.out⟩, ⟨by repeat (first | (with_reducible first | exact HB.out | apply below_alloc | apply pw_below_drewN | apply below_drew1 | refine below_set ?_ GE345.out) | exact HB.out)⟩⟩
          ·
           replace c31 := Bool.eq_false_iff.mpr c31
           subst c31
           have H1 : (some false) = some r := by rw [if_neg (show ¬ (false = true) by decide)] at H; exact H
           clear H
           have H := H1
           clear H1
           obtain rfl := Option.some.inj H
           try go_wp2
           have n0_ := Aside0.mk (blk_drew BK345.out)
           have n1_ := Aside0.mk (below_drew1 HB.out)
           clear BK345
           clear HB
           have BK345 := n0_
           have HB := n1_
           clear n0_ n1_
           have p347 : 0 ≤ (x12_2 : Int) := od
           have q347 : x12_2 < (l4.length : Int) := od
           obtain ⟨ad347, A347_1, c347_1, e347, hx347_0, hx347_1, hl347_1, hi347_1⟩ := at_T48 HR4.out x12_2 p347 q347
           have hw347_1 := hx347_1
           have hw347_0 := hx347_0
           cases e347
           replace hx347_0 := (HB.out.cell (World.block_lt_of_cell? w _ hx347_0)).trans hx347_0
           replace hx347_1 := (HB.out.cell (World.block_lt_of_cell? w _ hx347_1)).trans hx347_1
           have HR347_1 := Aside0.mk hi347_1
           have HC347_1 := Aside0.mk hl347_1
           clear hi347_1 hl347_1
           replace p347 := eq_true p347
           replace q347 := eq_true q347
           have p348 : 0 ≤ (x12_2 : Int) := od
           have q348 : x12_2 < (l4.length : Int) := od
           obtain ⟨ad348, A348_1, c348_1, e348, hx348_0, hx348_1, hl348_1, hi348_1⟩ := at_T48 HR4.out x12_2 p348 q348
           have hw348_1 := hx348_1
           have hw348_0 := hx348_0
           obtain rfl : ad347 = ad348 := (by injection e348)
           replace hx348_0 := (HB.out.cell (World.block_lt_of_cell? w _ hx348_0)).trans hx348_0
           replace hx348_1 := (HB.out.cell (World.block_lt_of_cell? w _ hx348_1)).trans hx348_1
           have HR348_1 := Aside0.mk hi348_1
           have HC348_1 := Aside0.mk hl348_1
           clear hi348_1 hl348_1
           replace p348 := eq_true p348
           replace q348 := eq_true q348
           have ea_ := Option.some.inj (hx347_1.symm.trans hx348_1)
           injection ea_ with ea_ en_ ec_
           subst ea_
           subst ec_
           clear en_
           have p349 : 0 ≤ (x12_2 : Int) := od
           have q349 : x12_2 < (l4.length : Int) := od
           obtain ⟨ad349, A349_1, c349_1, e349, hx349_0, hx349_1, hl349_1, hi349_1⟩ := at_T48 HR4.out x12_2 p349 q349
           have hw349_1 := hx349_1
           have hw349_0 := hx349_0
           obtain rfl : ad347 = ad349 := (by injection e349)
           replace hx349_0 := (HB.out.cell (World.block_lt_of_cell? w _ hx349_0)).trans hx349_0
           replace hx349_1 := (HB.out.cell (World.block_lt_of_cell? w _ hx349_1)).trans hx349_1
           have HR349_1 := Aside0.mk hi349_1
           have HC349_1 := Aside0.mk hl349_1
           clear hi349_1 hl349_1
           replace p349 := eq_true p349
           replace q349 := eq_true q349
           have ea_ := Option.some.inj (hx347_1.symm.trans hx349_1)
           injection ea_ with ea_ en_ ec_
           subst ea_
           subst ec_
           clear en_
           refine start_ (n := 29) (S := fun w' => w'.cell? ⟨gb345, 0, none⟩ = some (.int .i64 a0_0) ∧ w'.cell? ⟨gb345, 1, none⟩ = some (.slice A0_1 l0_1.length c0_1) ∧ w'.cell? (ad347.add ((x12_2).toNat * 2)) = some (.int .i64 ((rd_T48 l4 x12_2).f0)) ∧ w'.cell? ⟨(ad347.add ((x12_2).toNat * 2)).block, (ad347.add ((x12_2).toNat * 2)).off + 1, none⟩ = some (.slice A347_1 ((rd_T48 l4 x12_2).f1).length c347_1) ∧ w'.cell? (ad347.add ((x12_2).toNat * 2)) = some (.int .i64 ((rd_T48 l4 x12_2).f0)) ∧ w'.cell? ⟨(ad347.add ((x12_2).toNat * 2)).block, (ad347.add ((x12_2).toNat * 2)).off + 1, none⟩ = some (.slice A347_1 ((rd_T48 l4 x12_2).f1).length c347_1) ∧ w'.cell? (ad347.add ((x12_2).toNat * 2)) = some (.int .i64 ((rd_T48 l4 x12_2).f0)) ∧ w'.cell? ⟨(ad347.add ((x12_2).toNat * 2)).block, (ad347.add ((x12_2).toNat * 2)).off + 1, none⟩ = some (.slice A347_1 ((rd_T48 l4 x12_2).f1).length c347_1)) (ds := []) (mk 29 0) (by kernel_rfl) rfl (by kernel_rfl) ⟨(blk_cell BK345.out 0).trans rfl, (blk_cell BK345.out 1).trans rfl, ((HB.out.cell (World.block_lt_of_cell? w _ hw347_0)).trans hw347_0), ((HB.out.cell (World.block_lt_of_cell? w _ hw347_1)).trans hw347_1), ((HB.out.cell (World.block_lt_of_cell? w _ hw348_0)).trans hw348_0), ((HB.out.cell (World.block_lt_of_cell? w _ hw348_1)).trans hw348_1), ((HB.out.cell (World.block_lt_of_cell? w _ hw349_0)).trans hw349_0), ((HB.out.cell (World.block_lt_of_cell? w _ hw349_1)).trans hw349_1)⟩ (fun hHeld => ?_); refine with_tabW tollbarref4_BundleMay.tab7 tollbarref4_BundleMay.bits7 (fun HT_ HW_ => ?_)
           generalize wr.drew = w34 at BK345 HB HR347_1 HR348_1 HR349_1 hx347_0 hx347_1 hx348_0 hx348_1 hx349_0 hx349_1 hHeld ⊢
           refine pu 0 40 (mk 29 1) HT_ ?_
           refine pu 1 41 (mk 29 3) HT_ ?_
           refine pu 2 42 (mk 29 7) HT_ ?_
           refine pu 3 43 (mk 29 15) HT_ ?_
           refine ta 4 44 (mk 29 31) rfl rfl HT_ HW_ hHeld (Or.inl ⟨by rfl, by rintro w' ⟨s0, s1, s2, s3, s4, s5, s6, s7⟩; go_simp; with_reducible rfl⟩) ?_
           refine pu 5 45 (mk 29 63) HT_ ?_
           refine pu 6 46 (mk 29 127) HT_ ?_
           refine pu 7 47 (mk 29 255) HT_ ?_
           refine pu 8 48 (mk 29 511) HT_ ?_
           refine pu 9 49 (mk 29 1023) HT_ ?_
           refine pu 10 50 (mk 29 2047) HT_ ?_
           refine pu 12 52 (mk 29 6143) HT_ ?_
           refine pu 13 53 (mk 29 14335) HT_ ?_
           refine pu 14 54 (mk 29 30719) HT_ ?_
           refine ta 11 51 (mk 29 32767) rfl rfl HT_ HW_ hHeld (Or.inl ⟨by rfl, by rintro w' ⟨s0, s1, s2, s3, s4, s5, s6, s7⟩; go_simp; with_reducible rfl⟩) ?_
           refine pu 15 55 (mk 29 65535) HT_ ?_
           refine pu 16 56 (mk 29 131071) HT_ ?_
           refine pu 17 57 (mk 29 262143) HT_ ?_
           refine pu 19 59 (mk 29 786431) HT_ ?_
           refine pu 20 60 (mk 29 1835007) HT_ ?_
           refine pu 21 61 (mk 29 3932159) HT_ ?_
           refine pu 22 62 (mk 29 8126463) HT_ ?_
           refine pu 23 63 (mk 29 16515071) HT_ ?_
           refine pu 24 64 (mk 29 33292287) HT_ ?_
           refine ta 18 58 (mk 29 33554431) rfl rfl HT_ HW_ hHeld (Or.inl ⟨by rfl, by rintro w' ⟨s0, s1, s2, s3, s4, s5, s6, s7⟩; go_simp; with_reducible rfl⟩) ?_
           refine ta 25 65 (mk 29 67108863) rfl rfl HT_ HW_ hHeld (Or.inl ⟨by rfl, by rintro w' ⟨s0, s1, s2, s3, s4, s5, s6, s7⟩; go_simp; with_reducible rfl⟩) ?_
           refine one_ (i := 26) (N := some 66) (mk 29 134217727) rfl rfl (one_of HT_.out (by kernel_rfl)) (by decide) (fun K hK => ?_)
           refine goes_ Try.func30 (by kernel_rfl) rfl #[.agg #[.int .i64 a0_0, .slice A0_1 l0_1.length c0_1], .int .i64 a1, .int .i64 a2, .slice A347_1 ((rd_T48 l4 x12_2).f1).length c347_1] (by rfl) rfl rfl (by (try simp only [List.map_toArray, List.map_cons, List.map_nil]); first | done | rfl | (simp only [List.length_drop, List.length_take]; rfl)) ?_
           with_reducible refine (tollbarref4_PathMay.calls k2 a0_0 _ _ l0_1 a1 a2 _ _ ((rd_T48 l4 x12_2).f1) false _ ?side1 ?side2 ?side3 ?side4 A30.out).mono ?_
           (case side1 => repeat (first | exact (Kd.C_below HR0_1.out HB.out) | (with_reducible refine Kd.C_alloc ?_ _) | (with_reducible refine Kd.C_drewN ?_ _) | (with_reducible refine Kd.C_drew ?_)))
           (case side2 => exact HC0_1.out)
           (case side3 => repeat (first | exact (Kd.C_below HR349_1.out HB.out) | (with_reducible refine Kd.C_alloc ?_ _) | (with_reducible refine Kd.C_drewN ?_ _) | (with_reducible refine Kd.C_drew ?_)))
           (case side4 => exact HC349_1.out)
           rintro e w35 ⟨rfl, hb⟩
           refine ⟨_, rfl, ?_⟩
           have n0_ := Aside0.mk (blk_below (g := gb345) (o := .cells #[.int .i64 a0_0, .slice A0_1 l0_1.length c0_1] 24 (0, 0)) (by (with_reducible repeat (first | refine blk_drewN ?_ _ | refine blk_drew ?_ | refine blk_alloc ?_ _)); exact BK345.out) hb)
           have n1_ := Aside0.mk (below_step (by repeat (first | (with_reducible first | exact HB.out | apply below_alloc | apply pw_below_drewN | apply below_drew1 | refine below_set ?_ GE345.out) | exact HB.out)) hb)
           clear BK345
           clear HB
           have BK345 := n0_
           have HB := n1_
           clear n0_ n1_
           (try clear hb)
           (try clear hb2)
           (try clear hk)
           (try clear hi)
           refine hK.out _ _ ⟨(blk_cell BK345.out 0).trans rfl, (blk_cell BK345.out 1).trans rfl, ((HB.out.cell (World.block_lt_of_cell? w _ hw347_0)).trans hw347_0), ((HB.out.cell (World.block_lt_of_cell? w _ hw347_1)).trans hw347_1), ((HB.out.cell (World.block_lt_of_cell? w _ hw348_0)).trans hw348_0), ((HB.out.cell (World.block_lt_of_cell? w _ hw348_1)).trans hw348_1), ((HB.out.cell (World.block_lt_of_cell? w _ hw349_0)).trans hw349_0), ((HB.out.cell (World.block_lt_of_cell? w _ hw349_1)).trans hw349_1)⟩ (fun hHeld => ?_)
           clear hK K
           refine nq 66 ?_
           refine pu 27 67 (mk 29 268435455) HT_ ?_
           refine pu 28 68 (mk 29 536870911) HT_ ?_
           refine done_ (done_of HT_.out (by kernel_rfl)) ?_
           try go_wp2
           go_ret
           exact ⟨by first | rfl | (simp [errW_none, errW_some] <;> rfl) | (simp [*, errW_none, errW_some] <;> rfl), by repeat (first | (with_reducible first | exact HB.out | apply below_alloc | apply pw_below_drewN | apply below_drew1 | refine below_set ?_ GE345.out) | exact HB.out)⟩
       ·
        rw [if_neg c25] at H
        exact absurd H (by simp)
      ·
       rw [if_neg c24] at H
       have c24b0 : decide (x12_2 < (l4.length : Int)) = false := decide_eq_false c24
       clear c24
       obtain rfl := Option.some.inj H
       go_wp2
       go_ret
       exact ⟨by first | rfl | (simp [errW_none, errW_some] <;> rfl) | (simp [*, errW_none, errW_some] <;> rfl), by repeat (first | (with_reducible first | exact HB.out | apply below_alloc | apply pw_below_drewN | apply below_drew1 | refine below_set ?_ GE345.out) | exact HB.out)⟩
def tollbarlaw15_small.f  : Option (Int × (List (S53))) := some (3, (([(⟨0, 1, 5⟩ : S53), (⟨1, 2, 4⟩ : S53), (⟨0, 2, 3⟩ : S53)] : List (S53))))
theorem tollbarlaw15_small.calls  (r1 : Int) (r2 : List (S53)) (w : World) (h : tollbarlaw15_small.f  = some (r1, r2)) :
    Calls Try.prog 23 #[] w fun e w' => ∃ v1_ : Value, e = .returned (.agg #[.int .i64 r1, v1_]) ∧ Kd.R k53 53 w' w.heap.size (fun _ => True) v1_ r2 ∧ Below w.heap.size w w' := by
  have hu24 := Try.underlying24
  have hu53 := Try.underlying53
  have HB := Aside0.mk (Below.refl w.heap.size w)
  have H : (some (3, (([(⟨0, 1, 5⟩ : S53), (⟨1, 2, 4⟩ : S53), (⟨0, 2, 3⟩ : S53)] : List (S53))))) = some (r1, r2) := h
  clear h
  obtain ⟨y353, hy353⟩ : ∃ y_ : List (S53), y_ = (([(⟨0, 1, 5⟩ : S53), (⟨1, 2, 4⟩ : S53), (⟨0, 2, 3⟩ : S53)] : List (S53))) := ⟨_, rfl⟩
  replace H : (some (3, y353)) = some (r1, r2) := by first | (rw [hy353]; with_reducible exact H) | (have H2_ := (Option.bind_some _ _).symm.trans H; rw [hy353]; with_reducible exact H2_) | (have H2_ := (Option.bind_some _ _).symm.trans H; with_reducible exact H2_) | with_reducible exact H | (rw [hy353]; exact H) | exact H
  have Ny353 := Aside0.mk hy353
  clear hy353
  simp only [Option.some.injEq, Prod.mk.injEq] at H
  obtain ⟨rfl, rfl⟩ := H
  go_enter Try.func23, Try.ntmps23
  go_wp2_with (first | ((with_reducible refine gate_dst (N := 0) rfl ?_); refine box_event ?hg (N := 0) ?hd (cs := #[.int .i64 0, .slice none 0 0]) (t := 24) ?hr ?_; (case hd => rfl); (case hg => rfl); (case hr => first | (go_simp; done) | (go_simp; rfl)); intro gb352 hg w1 hbox hb; have n0_ := Aside0.mk (below_step (by repeat (first | (with_reducible first | exact HB.out | apply below_alloc | apply pw_below_drewN | apply below_drew1) | exact HB.out)) hb); have n1_ := Aside0.mk (hbox); have n2_ := Aside0.mk ((by rw [hg]; exact (below_size (by repeat (first | (with_reducible first | exact HB.out | apply below_alloc | apply pw_below_drewN | apply below_drew1) | exact HB.out))) : w.heap.size ≤ gb352)); have n3_ := Aside0.mk ((by rw [hg]; exact (below_size (by repeat (first | (with_reducible first | exact HB.out | apply below_alloc | apply pw_below_drewN | apply below_drew1) | exact HB.out))) : w.heap.size ≤ gb352)); clear HB; have HB := n0_; have BK352 := n1_; have GW352 := n2_; have GE352 := n3_; clear n0_ n1_ n2_ n3_; clear hb hbox hg) | ((with_reducible refine gate_dst (N := 4) rfl ?_); refine Kd.R_lit k53 _ 53 ?hg (N := 4) ?hd (xs := ([(⟨0, 1, 5⟩ : S53), (⟨1, 2, 4⟩ : S53), (⟨0, 2, 3⟩ : S53)] : List (S53))) (inner := [.int .i64 0, .int .i64 1, .int .i64 5, .int .i64 1, .int .i64 2, .int .i64 4, .int .i64 0, .int .i64 2, .int .i64 3]) (ok := fun _ => True) (okp := fun _ => True) ?hr ?hp (fun _ hk => hk) trivial (Below.refl _ _) (Nat.le_refl _) (by simp) ?_; (case hd => rfl); (case hg => rfl); (case hr => first | (go_simp; done) | (go_simp; rfl)); (case hp => exact (Reps.c3 (show Kd.M k53 _ _ _ (⟨0, 1, 5⟩ : S53) [.int .i64 0, .int .i64 1, .int .i64 5] from (k53_mkM _ _ _ (⟨0, 1, 5⟩ : S53) )) (Reps.c3 (show Kd.M k53 _ _ _ (⟨1, 2, 4⟩ : S53) [.int .i64 1, .int .i64 2, .int .i64 4] from (k53_mkM _ _ _ (⟨1, 2, 4⟩ : S53) )) (Reps.c3 (show Kd.M k53 _ _ _ (⟨0, 2, 3⟩ : S53) [.int .i64 0, .int .i64 2, .int .i64 3] from (k53_mkM _ _ _ (⟨0, 2, 3⟩ : S53) )) (Reps.none _ _))))); intro v354 w2 ho3 hb hg_ hnew_; clear hg_ hnew_; (first | rw [← Ny353.out] at ho3 | (simp only [Int.reduceToNat] at ho3; rw [← Ny353.out] at ho3)); have n0_ := Aside0.mk (Kd.R_lower ho3 (below_size (by repeat (first | (with_reducible first | exact HB.out | apply below_alloc | apply pw_below_drewN | apply below_drew1 | refine below_set ?_ GE352.out) | exact HB.out)))); have n1_ := Aside0.mk (blk_below (g := gb352) (o := .cells #[.int .i64 0, .slice none 0 0] 24 (0, 0)) (by (with_reducible repeat (first | refine blk_drewN ?_ _ | refine blk_drew ?_ | refine blk_alloc ?_ _)); exact BK352.out) hb); have n2_ := Aside0.mk (below_step (by repeat (first | (with_reducible first | exact HB.out | apply below_alloc | apply pw_below_drewN | apply below_drew1 | refine below_set ?_ GE352.out) | exact HB.out)) hb); clear BK352; clear HB; have HO355 := n0_; have BK352 := n1_; have HB := n2_; clear n0_ n1_ n2_; clear hb ho3; obtain ⟨Ao4, co4, eo4⟩ := Kd.R_slice HO355.out; subst eo4; have hcz5_0 : w2.cell? ⟨gb352, 0, none⟩ = some (.int .i64 0) := (blk_cell BK352.out 0).trans rfl; have hcz5_1 : w2.cell? ⟨gb352, 1, none⟩ = some (.slice none 0 0) := (blk_cell BK352.out 1).trans rfl; have hfz5_0 := blk_frozen BK352.out 0; have hfz5_1 := blk_frozen BK352.out 1))
  refine bodyPost_ret (results_cell_row rfl _ _ gb352 24 #[.int .i64 3, .slice Ao4 y353.length co4] (0, 0) _ rfl (by (with_reducible repeat (first | refine blk_drewN ?_ _ | refine blk_drew ?_ | refine blk_alloc ?_ _)); refine blk_put (cs := #[.int .i64 3, .slice none 0 0]) ?_ 1 _ rfl; (with_reducible repeat (first | refine blk_drewN ?_ _ | refine blk_drew ?_ | refine blk_alloc ?_ _)); refine blk_put (cs := #[.int .i64 0, .slice none 0 0]) ?_ 0 _ rfl; (with_reducible repeat (first | refine blk_drewN ?_ _ | refine blk_drew ?_ | refine blk_alloc ?_ _)); exact BK352.out) Try.underlying24 rfl (by kernel_rfl)) rfl ?_
  exact ⟨_, by first | rfl | (simp [errW_none, errW_some] <;> rfl) | (simp [*, errW_none, errW_some] <;> rfl), by (with_reducible repeat (first | apply Kd.R_alloc | apply Kd.R_drewN | apply Kd.R_drew)); exact Kd.R_mono (Kd.R_far (p := ⟨gb352, 1, none⟩) (Kd.R_far (p := ⟨gb352, 0, none⟩) (Kd.R_types HO355.out BK352.out (by decide)) (fun _ hk => hk.2) (.int .i64 3)) (fun _ hk => hk.2) (.slice Ao4 y353.length co4)) (fun _ hk => trivial), by repeat (first | (with_reducible first | exact HB.out | apply below_alloc | apply pw_below_drewN | apply below_drew1 | refine below_set ?_ GE352.out) | exact HB.out)⟩
def tollbarlaw15_awake.f (k : Nat)  : Option (Bool) := (tollbarlaw15_small.f).bind fun bt356 => ((strand_Split.f k bt356.1 bt356.2 (([4, 4, 3] : List Int)) 0 2).bind fun bt363 => ((tollbarlaw15_small.f).bind fun bt367 => ((strand_Split.f k bt367.1 bt367.2 (([0, 0, 0] : List Int)) 0 2).bind fun bt374 => ((tollbarlaw15_small.f).bind fun bt378 => ((strand_Split.f k bt378.1 bt378.2 (([4, 3, 3] : List Int)) 0 2).bind fun bt385 => (if (bt363.1.length : Int) ≥ 2 then ((tollbarlaw15_small.f).bind fun bt389 => ((tollbarref4_BundleMay.f k bt389.1 bt389.2 0 2 7 bt363.1).bind fun t393 => (if t393 = true then ((tollbarlaw0_Num.f bt363.2).bind fun t394 => (if t394 = 0 then (if (bt374.1.length : Int) = 0 then ((tollbarlaw0_Num.f bt374.2).bind fun t395 => (if t395 = 0 then ((tollbarlaw0_Num.f bt385.2).bind fun t396 => (some (t396 == 1500))) else (none))) else (none)) else (none))) else (none)))) else (none)))))))
theorem tollbarlaw15_awake.calls (k : Nat)  (r : Bool) (w : World) (h : tollbarlaw15_awake.f k  = some r) :
  Calls Try.prog 11 #[] w fun e w' => e = .returned (.bool r) ∧ Below w.heap.size w w' := by
 have HB := Aside0.mk (Below.refl w.heap.size w)
 have H : ((tollbarlaw15_small.f).bind fun bt356 => ((strand_Split.f k bt356.1 bt356.2 (([4, 4, 3] : List Int)) 0 2).bind fun bt363 => ((tollbarlaw15_small.f).bind fun bt367 => ((strand_Split.f k bt367.1 bt367.2 (([0, 0, 0] : List Int)) 0 2).bind fun bt374 => ((tollbarlaw15_small.f).bind fun bt378 => ((strand_Split.f k bt378.1 bt378.2 (([4, 3, 3] : List Int)) 0 2).bind fun bt385 => (if (bt363.1.length : Int) ≥ 2 then ((tollbarlaw15_small.f).bind fun bt389 => ((tollbarref4_BundleMay.f k bt389.1 bt389.2 0 2 7 bt363.1).bind fun t393 => (if t393 = true then ((tollbarlaw0_Num.f bt363.2).bind fun t394 => (if t394 = 0 then (if (bt374.1.length : Int) = 0 then ((tollbarlaw0_Num.f bt374.2).bind fun t395 => (if t395 = 0 then ((tollbarlaw0_Num.f bt385.2).bind fun t396 => (some (t396 == 1500))) else (none))) else (none)) else (none))) else (none)))) else (none)))))))) = some r := h
 clear h
 replace H := Option.bind_eq_some_iff.mp H
 obtain ⟨⟨t356, t357⟩, A10, H⟩ := H
 replace H : ((strand_Split.f k t356 t357 (([4, 4, 3] : List Int)) 0 2).bind fun bt363 => ((tollbarlaw15_small.f).bind fun bt367 => ((strand_Split.f k bt367.1 bt367.2 (([0, 0, 0] : List Int)) 0 2).bind fun bt374 => ((tollbarlaw15_small.f).bind fun bt378 => ((strand_Split.f k bt378.1 bt378.2 (([4, 3, 3] : List Int)) 0 2).bind fun bt385 => (if (bt363.1.length : Int) ≥ 2 then ((tollbarlaw15_small.f).bind fun bt389 => ((tollbarref4_BundleMay.f k bt389.1 bt389.2 0 2 7 bt363.1).bind fun t393 => (if t393 = true then ((tollbarlaw0_Num.f bt363.2).bind fun t394 => (if t394 = 0 then (if (bt374.1.length : Int) = 0 then ((tollbarlaw0_Num.f bt374.2).bind fun t395 => (if t395 = 0 then ((tollbarlaw0_Num.f bt385.2).bind fun t396 => (some (t396 == 1500))) else (none))) else (none)) else (none))) else (none)))) else (none))))))) = some r := H
 have A1 := Aside0.mk A10
 clear A10
 obtain ⟨y360, hy360⟩ : ∃ y_ : List Int, y_ = (([4, 4, 3] : List Int)) := ⟨_, rfl⟩
 replace H : ((strand_Split.f k t356 t357 y360 0 2).bind fun bt363 => ((tollbarlaw15_small.f).bind fun bt367 => ((strand_Split.f k bt367.1 bt367.2 (([0, 0, 0] : List Int)) 0 2).bind fun bt374 => ((tollbarlaw15_small.f).bind fun bt378 => ((strand_Split.f k bt378.1 bt378.2 (([4, 3, 3] : List Int)) 0 2).bind fun bt385 => (if (bt363.1.length : Int) ≥ 2 then ((tollbarlaw15_small.f).bind fun bt389 => ((tollbarref4_BundleMay.f k bt389.1 bt389.2 0 2 7 bt363.1).bind fun t393 => (if t393 = true then ((tollbarlaw0_Num.f bt363.2).bind fun t394 => (if t394 = 0 then (if (bt374.1.length : Int) = 0 then ((tollbarlaw0_Num.f bt374.2).bind fun t395 => (if t395 = 0 then ((tollbarlaw0_Num.f bt385.2).bind fun t396 => (some (t396 == 1500))) else (none))) else (none)) else (none))) else (none)))) else (none))))))) = some r := by first | (rw [hy360]; with_reducible exact H) | (have H2_ := (Option.bind_some _ _).symm.trans H; rw [hy360]; with_reducible exact H2_) | (have H2_ := (Option.bind_some _ _).symm.trans H; with_reducible exact H2_) | with_reducible exact H | (rw [hy360]; exact H) | exact H
 have Ny360 := Aside0.mk hy360
 clear hy360
 replace H := Option.bind_eq_some_iff.mp H
 obtain ⟨⟨t363, t366⟩, A20, H⟩ := H
 replace H : ((tollbarlaw15_small.f).bind fun bt367 => ((strand_Split.f k bt367.1 bt367.2 (([0, 0, 0] : List Int)) 0 2).bind fun bt374 => ((tollbarlaw15_small.f).bind fun bt378 => ((strand_Split.f k bt378.1 bt378.2 (([4, 3, 3] : List Int)) 0 2).bind fun bt385 => (if (t363.length : Int) ≥ 2 then ((tollbarlaw15_small.f).bind fun bt389 => ((tollbarref4_BundleMay.f k bt389.1 bt389.2 0 2 7 t363).bind fun t393 => (if t393 = true then ((tollbarlaw0_Num.f t366).bind fun t394 => (if t394 = 0 then (if (bt374.1.length : Int) = 0 then ((tollbarlaw0_Num.f bt374.2).bind fun t395 => (if t395 = 0 then ((tollbarlaw0_Num.f bt385.2).bind fun t396 => (some (t396 == 1500))) else (none))) else (none)) else (none))) else (none)))) else (none)))))) = some r := H
 have A2 := Aside0.mk A20
 clear A20
 replace H := Option.bind_eq_some_iff.mp H
 obtain ⟨⟨t367, t368⟩, A30, H⟩ := H
 replace H : ((strand_Split.f k t367 t368 (([0, 0, 0] : List Int)) 0 2).bind fun bt374 => ((tollbarlaw15_small.f).bind fun bt378 => ((strand_Split.f k bt378.1 bt378.2 (([4, 3, 3] : List Int)) 0 2).bind fun bt385 => (if (t363.length : Int) ≥ 2 then ((tollbarlaw15_small.f).bind fun bt389 => ((tollbarref4_BundleMay.f k bt389.1 bt389.2 0 2 7 t363).bind fun t393 => (if t393 = true then ((tollbarlaw0_Num.f t366).bind fun t394 => (if t394 = 0 then (if (bt374.1.length : Int) = 0 then ((tollbarlaw0_Num.f bt374.2).bind fun t395 => (if t395 = 0 then ((tollbarlaw0_Num.f bt385.2).bind fun t396 => (some (t396 == 1500))) else (none))) else (none)) else (none))) else (none)))) else (none))))) = some r := H
 have A3 := Aside0.mk A30
 clear A30
 obtain ⟨y371, hy371⟩ : ∃ y_ : List Int, y_ = (([0, 0, 0] : List Int)) := ⟨_, rfl⟩
 replace H : ((strand_Split.f k t367 t368 y371 0 2).bind fun bt374 => ((tollbarlaw15_small.f).bind fun bt378 => ((strand_Split.f k bt378.1 bt378.2 (([4, 3, 3] : List Int)) 0 2).bind fun bt385 => (if (t363.length : Int) ≥ 2 then ((tollbarlaw15_small.f).bind fun bt389 => ((tollbarref4_BundleMay.f k bt389.1 bt389.2 0 2 7 t363).bind fun t393 => (if t393 = true then ((tollbarlaw0_Num.f t366).bind fun t394 => (if t394 = 0 then (if (bt374.1.length : Int) = 0 then ((tollbarlaw0_Num.f bt374.2).bind fun t395 => (if t395 = 0 then ((tollbarlaw0_Num.f bt385.2).bind fun t396 => (some (t396 == 1500))) else (none))) else (none)) else (none))) else (none)))) else (none))))) = some r := by first | (rw [hy371]; with_reducible exact H) | (have H2_ := (Option.bind_some _ _).symm.trans H; rw [hy371]; with_reducible exact H2_) | (have H2_ := (Option.bind_some _ _).symm.trans H; with_reducible exact H2_) | with_reducible exact H | (rw [hy371]; exact H) | exact H
 have Ny371 := Aside0.mk hy371
 clear hy371
 replace H := Option.bind_eq_some_iff.mp H
 obtain ⟨⟨t374, t377⟩, A40, H⟩ := H
 replace H : ((tollbarlaw15_small.f).bind fun bt378 => ((strand_Split.f k bt378.1 bt378.2 (([4, 3, 3] : List Int)) 0 2).bind fun bt385 => (if (t363.length : Int) ≥ 2 then ((tollbarlaw15_small.f).bind fun bt389 => ((tollbarref4_BundleMay.f k bt389.1 bt389.2 0 2 7 t363).bind fun t393 => (if t393 = true then ((tollbarlaw0_Num.f t366).bind fun t394 => (if t394 = 0 then (if (t374.length : Int) = 0 then ((tollbarlaw0_Num.f t377).bind fun t395 => (if t395 = 0 then ((tollbarlaw0_Num.f bt385.2).bind fun t396 => (some (t396 == 1500))) else (none))) else (none)) else (none))) else (none)))) else (none)))) = some r := H
 have A4 := Aside0.mk A40
 clear A40
 replace H := Option.bind_eq_some_iff.mp H
 obtain ⟨⟨t378, t379⟩, A50, H⟩ := H
 replace H : ((strand_Split.f k t378 t379 (([4, 3, 3] : List Int)) 0 2).bind fun bt385 => (if (t363.length : Int) ≥ 2 then ((tollbarlaw15_small.f).bind fun bt389 => ((tollbarref4_BundleMay.f k bt389.1 bt389.2 0 2 7 t363).bind fun t393 => (if t393 = true then ((tollbarlaw0_Num.f t366).bind fun t394 => (if t394 = 0 then (if (t374.length : Int) = 0 then ((tollbarlaw0_Num.f t377).bind fun t395 => (if t395 = 0 then ((tollbarlaw0_Num.f bt385.2).bind fun t396 => (some (t396 == 1500))) else (none))) else (none)) else (none))) else (none)))) else (none))) = some r := H
 have A5 := Aside0.mk A50
 clear A50
 obtain ⟨y382, hy382⟩ : ∃ y_ : List Int, y_ = (([4, 3, 3] : List Int)) := ⟨_, rfl⟩
 replace H : ((strand_Split.f k t378 t379 y382 0 2).bind fun bt385 => (if (t363.length : Int) ≥ 2 then ((tollbarlaw15_small.f).bind fun bt389 => ((tollbarref4_BundleMay.f k bt389.1 bt389.2 0 2 7 t363).bind fun t393 => (if t393 = true then ((tollbarlaw0_Num.f t366).bind fun t394 => (if t394 = 0 then (if (t374.length : Int) = 0 then ((tollbarlaw0_Num.f t377).bind fun t395 => (if t395 = 0 then ((tollbarlaw0_Num.f bt385.2).bind fun t396 => (some (t396 == 1500))) else (none))) else (none)) else (none))) else (none)))) else (none))) = some r := by first | (rw [hy382]; with_reducible exact H) | (have H2_ := (Option.bind_some _ _).symm.trans H; rw [hy382]; with_reducible exact H2_) | (have H2_ := (Option.bind_some _ _).symm.trans H; with_reducible exact H2_) | with_reducible exact H | (rw [hy382]; exact H) | exact H
 have Ny382 := Aside0.mk hy382
 clear hy382
 replace H := Option.bind_eq_some_iff.mp H
 obtain ⟨⟨t385, t388⟩, A60, H⟩ := H
 replace H : (if (t363.length : Int) ≥ 2 then ((tollbarlaw15_small.f).bind fun bt389 => ((tollbarref4_BundleMay.f k bt389.1 bt389.2 0 2 7 t363).bind fun t393 => (if t393 = true then ((tollbarlaw0_Num.f t366).bind fun t394 => (if t394 = 0 then (if (t374.length : Int) = 0 then ((tollbarlaw0_Num.f t377).bind fun t395 => (if t395 = 0 then ((tollbarlaw0_Num.f t388).bind fun t396 => (some (t396 == 1500))) else (none))) else (none)) else (none))) else (none)))) else (none)) = some r := H
 have A6 := Aside0.mk A60
 clear A60
 by_cases c7 : (t363.length : Int) ≥ 2
 ·
  rw [if_pos c7] at H
  have c7b0 : decide (2 ≤ (t363.length : Int)) = true := decide_eq_true c7
  have c7b1 : decide (2 ≤ t363.length) = true := decide_eq_true (by omega)
  clear c7
  replace H := Option.bind_eq_some_iff.mp H
  obtain ⟨⟨t389, t390⟩, A80, H⟩ := H
  replace H : ((tollbarref4_BundleMay.f k t389 t390 0 2 7 t363).bind fun t393 => (if t393 = true then ((tollbarlaw0_Num.f t366).bind fun t394 => (if t394 = 0 then (if (t374.length : Int) = 0 then ((tollbarlaw0_Num.f t377).bind fun t395 => (if t395 = 0 then ((tollbarlaw0_Num.f t388).bind fun t396 => (some (t396 == 1500))) else (none))) else (none)) else (none))) else (none))) = some r := H
  have A8 := Aside0.mk A80
  clear A80
  replace H := Option.bind_eq_some_iff.mp H
  obtain ⟨t393, A90, H⟩ := H
  replace H : (if t393 = true then ((tollbarlaw0_Num.f t366).bind fun t394 => (if t394 = 0 then (if (t374.length : Int) = 0 then ((tollbarlaw0_Num.f t377).bind fun t395 => (if t395 = 0 then ((tollbarlaw0_Num.f t388).bind fun t396 => (some (t396 == 1500))) else (none))) else (none)) else (none))) else (none)) = some r := H
  have A9 := Aside0.mk A90
  clear A90
  by_cases c10 : t393 = true
  ·
   subst c10
   have H1 : ((tollbarlaw0_Num.f t366).bind fun t394 => (if t394 = 0 then (if (t374.length : Int) = 0 then ((tollbarlaw0_Num.f t377).bind fun t395 => (if t395 = 0 then ((tollbarlaw0_Num.f t388).bind fun t396 => (some (t396 == 1500))) else (none))) else (none)) else (none))) = some r := by rw [if_pos rfl] at H; exact H
   clear H
   have H := H1
   clear H1
   replace H := Option.bind_eq_some_iff.mp H
   obtain ⟨t394, A110, H⟩ := H
   replace H : (if t394 = 0 then (if (t374.length : Int) = 0 then ((tollbarlaw0_Num.f t377).bind fun t395 => (if t395 = 0 then ((tollbarlaw0_Num.f t388).bind fun t396 => (some (t396 == 1500))) else (none))) else (none)) else (none)) = some r := H
   have A11 := Aside0.mk A110
   clear A110
   by_cases c12 : t394 = 0
   ·
    rw [if_pos c12] at H
    have c12b0 : (t394 == 0) = true := beq_iff_eq.mpr c12
    have c12b1 : (t394 != 0) = false := bne_eq_false_iff_eq.mpr c12
    clear c12
    by_cases c13 : (t374.length : Int) = 0
    ·
     rw [if_pos c13] at H
     have c13b0 : ((t374.length : Int) == 0) = true := beq_iff_eq.mpr c13
     have c13b1 : ((t374.length : Int) != 0) = false := bne_eq_false_iff_eq.mpr c13
     clear c13
     replace H := Option.bind_eq_some_iff.mp H
     obtain ⟨t395, A140, H⟩ := H
     replace H : (if t395 = 0 then ((tollbarlaw0_Num.f t388).bind fun t396 => (some (t396 == 1500))) else (none)) = some r := H
     have A14 := Aside0.mk A140
     clear A140
     by_cases c15 : t395 = 0
     ·
      rw [if_pos c15] at H
      have c15b0 : (t395 == 0) = true := beq_iff_eq.mpr c15
      have c15b1 : (t395 != 0) = false := bne_eq_false_iff_eq.mpr c15
      clear c15
      replace H := Option.bind_eq_some_iff.mp H
      obtain ⟨t396, A160, H⟩ := H
      replace H : (some (t396 == 1500)) = some r := H
      have A16 := Aside0.mk A160
      clear A160
      obtain rfl := Option.some.inj H
      go_enter Try.func11, Try.ntmps11
      go_wp2_with (first | ((with_reducible refine gate_callee (f := 23) rfl ?_); refine goesL_ (some 8) rfl rfl Try.func23 (by kernel_rfl) rfl #[] rfl (by (try simp only [List.map_toArray, List.map_cons, List.map_nil]); first | done | rfl | (simp only [List.length_drop, List.length_take]; rfl)) ?_; (with_reducible refine (tollbarlaw15_small.calls  t356 t357 _ A1.out).mono ?_); rintro e w17 ⟨v358, rfl, ho0, hb⟩; refine ⟨_, rfl, ?_⟩; have n0_ := Aside0.mk (Kd.R_lower ho0 (below_size (by repeat (first | (with_reducible first | exact HB.out | apply below_alloc | apply pw_below_drewN | apply below_drew1) | exact HB.out)))); have n1_ := Aside0.mk (below_step (by repeat (first | (with_reducible first | exact HB.out | apply below_alloc | apply pw_below_drewN | apply below_drew1) | exact HB.out)) hb); clear HB; have HO359 := n0_; have HB := n1_; clear n0_ n1_; (try clear hb); (try clear hb2); (try clear hk); (try clear hi); (try clear ho0)) | ((with_reducible refine gate_dst (N := 9) rfl ?_); (try (refine gate_guard (by rfl) ?_; dsimp only)); refine Kd.R_lit (Kd.int .i64) _ 3 ?hg (N := 9) ?hd (xs := ([4, 4, 3] : List Int)) (inner := [.int .i64 4, .int .i64 4, .int .i64 3]) (ok := fun _ => True) (okp := fun _ => True) ?hr ?hp (fun _ hk => hk) trivial (Below.refl _ _) (Nat.le_refl _) (by simp) ?_; (case hd => rfl); (case hg => rfl); (case hr => first | (go_simp; done) | (go_simp; rfl)); (case hp => exact (Reps.one (show Kd.M (Kd.int .i64) _ _ _ 4 [.int .i64 4] from rfl) (Reps.one (show Kd.M (Kd.int .i64) _ _ _ 4 [.int .i64 4] from rfl) (Reps.one (show Kd.M (Kd.int .i64) _ _ _ 3 [.int .i64 3] from rfl) (Reps.none _ _))))); intro v361 w18 ho19 hb hg_ hnew_; clear hg_ hnew_; (first | rw [← Ny360.out] at ho19 | (simp only [Int.reduceToNat] at ho19; rw [← Ny360.out] at ho19)); have n0_ := Aside0.mk (Kd.R_below (by (with_reducible repeat (first | apply Kd.R_alloc | apply Kd.R_drewN | apply Kd.R_drew)); exact HO359.out) hb); have n1_ := Aside0.mk (Kd.R_lower ho19 (below_size (by repeat (first | (with_reducible first | exact HB.out | apply below_alloc | apply pw_below_drewN | apply below_drew1) | exact HB.out)))); have n2_ := Aside0.mk (below_step (by repeat (first | (with_reducible first | exact HB.out | apply below_alloc | apply pw_below_drewN | apply below_drew1) | exact HB.out)) hb); clear HO359; clear HB; have HO359 := n0_; have HO362 := n1_; have HB := n2_; clear n0_ n1_ n2_; clear hb ho19; obtain ⟨Ao20, co20, eo20⟩ := Kd.R_slice HO359.out; subst eo20; obtain ⟨Ao21, co21, eo21⟩ := Kd.R_slice HO362.out; subst eo21) | ((with_reducible refine gate_callee (f := 9) rfl ?_); refine goesL_ (some 10) rfl rfl Try.func9 (by kernel_rfl) rfl #[.agg #[.int .i64 t356, .slice Ao20 t357.length co20], .slice Ao21 y360.length co21, .int .i64 0, .int .i64 2] rfl (by (try simp only [List.map_toArray, List.map_cons, List.map_nil]); first | done | rfl | (simp only [List.length_drop, List.length_take]; rfl)) ?_; (with_reducible refine (strand_Split.calls k t356 _ _ t357 _ _ y360 0 2 t363 t366 _ ?side1 ?side2 ?side3 ?side4 A2.out).mono ?_); (case side1 => repeat (first | exact (Kd.R_reads' HO359.out).2.2 | (with_reducible refine Kd.C_alloc ?_ _) | (with_reducible refine Kd.C_drewN ?_ _) | (with_reducible refine Kd.C_drew ?_))); (case side2 => exact (Kd.R_reads' HO359.out).2.1); (case side3 => repeat (first | exact (Kd.R_reads' HO362.out).2.2 | (with_reducible refine Kd.C_alloc ?_ _) | (with_reducible refine Kd.C_drewN ?_ _) | (with_reducible refine Kd.C_drew ?_))); (case side4 => exact (Kd.R_reads' HO362.out).2.1); rintro e w22 ⟨v364, rfl, ho0, hb⟩; refine ⟨_, rfl, ?_⟩; have n0_ := Aside0.mk (Kd.R_below (by (with_reducible repeat (first | apply Kd.R_alloc | apply Kd.R_drewN | apply Kd.R_drew)); exact HO359.out) hb); have n1_ := Aside0.mk (Kd.R_below (by (with_reducible repeat (first | apply Kd.R_alloc | apply Kd.R_drewN | apply Kd.R_drew)); exact HO362.out) hb); have n2_ := Aside0.mk (Kd.S_lower (Kd.S_new' ho0 (Kd.R_lt (by (with_reducible repeat (first | apply Kd.R_alloc | apply Kd.R_drewN | apply Kd.R_drew)); exact HO362.out))) (below_size (by repeat (first | (with_reducible first | exact HB.out | apply below_alloc | apply pw_below_drewN | apply below_drew1) | exact HB.out)))); have n3_ := Aside0.mk (below_step (by repeat (first | (with_reducible first | exact HB.out | apply below_alloc | apply pw_below_drewN | apply below_drew1) | exact HB.out)) hb); clear HO359; clear HO362; clear HB; have HO359 := n0_; have HO362 := n1_; have HO365 := n2_; have HB := n3_; clear n0_ n1_ n2_ n3_; (try clear hb); (try clear hb2); (try clear hk); (try clear hi); (try clear ho0)) | ((with_reducible refine gate_callee (f := 23) rfl ?_); refine goesL_ (some 14) rfl rfl Try.func23 (by kernel_rfl) rfl #[] rfl (by (try simp only [List.map_toArray, List.map_cons, List.map_nil]); first | done | rfl | (simp only [List.length_drop, List.length_take]; rfl)) ?_; (with_reducible refine (tollbarlaw15_small.calls  t367 t368 _ A3.out).mono ?_); rintro e w23 ⟨v369, rfl, ho0, hb⟩; refine ⟨_, rfl, ?_⟩; have n0_ := Aside0.mk (Kd.R_elder' (by (with_reducible repeat (first | apply Kd.R_alloc | apply Kd.R_drewN | apply Kd.R_drew)); exact HO359.out) (Kd.R_base ho0) hb); have n1_ := Aside0.mk (Kd.R_below (by (with_reducible repeat (first | apply Kd.R_alloc | apply Kd.R_drewN | apply Kd.R_drew)); exact HO362.out) hb); have n2_ := Aside0.mk (Kd.S_below (by (with_reducible repeat (first | apply Kd.S_alloc | apply Kd.S_drewN | apply Kd.S_drew)); exact HO365.out) hb); have n3_ := Aside0.mk (Kd.R_lower (Kd.R_new' ho0 (Kd.R_lt (by (with_reducible repeat (first | apply Kd.R_alloc | apply Kd.R_drewN | apply Kd.R_drew)); exact HO359.out))) (below_size (by repeat (first | (with_reducible first | exact HB.out | apply below_alloc | apply pw_below_drewN | apply below_drew1) | exact HB.out)))); have n4_ := Aside0.mk (below_step (by repeat (first | (with_reducible first | exact HB.out | apply below_alloc | apply pw_below_drewN | apply below_drew1) | exact HB.out)) hb); clear HO359; clear HO362; clear HO365; clear HB; have HO359 := n0_; have HO362 := n1_; have HO365 := n2_; have HO370 := n3_; have HB := n4_; clear n0_ n1_ n2_ n3_ n4_; (try clear hb); (try clear hb2); (try clear hk); (try clear hi); (try clear ho0)) | ((with_reducible refine gate_dst (N := 15) rfl ?_); (try (refine gate_guard (by rfl) ?_; dsimp only)); refine Kd.R_lit (Kd.int .i64) _ 3 ?hg (N := 15) ?hd (xs := ([0, 0, 0] : List Int)) (inner := [.int .i64 0, .int .i64 0, .int .i64 0]) (ok := fun _ => True) (okp := fun _ => True) ?hr ?hp (fun _ hk => hk) trivial (Below.refl _ _) (Nat.le_refl _) (by simp) ?_; (case hd => rfl); (case hg => rfl); (case hr => first | (go_simp; done) | (go_simp; rfl)); (case hp => exact (Reps.one (show Kd.M (Kd.int .i64) _ _ _ 0 [.int .i64 0] from rfl) (Reps.one (show Kd.M (Kd.int .i64) _ _ _ 0 [.int .i64 0] from rfl) (Reps.one (show Kd.M (Kd.int .i64) _ _ _ 0 [.int .i64 0] from rfl) (Reps.none _ _))))); intro v372 w24 ho25 hb hg_ hnew_; clear hg_ hnew_; (first | rw [← Ny371.out] at ho25 | (simp only [Int.reduceToNat] at ho25; rw [← Ny371.out] at ho25)); have n0_ := Aside0.mk (Kd.R_below (by (with_reducible repeat (first | apply Kd.R_alloc | apply Kd.R_drewN | apply Kd.R_drew)); exact HO359.out) hb); have n1_ := Aside0.mk (Kd.R_elder' (by (with_reducible repeat (first | apply Kd.R_alloc | apply Kd.R_drewN | apply Kd.R_drew)); exact HO362.out) (Kd.R_base ho25) hb); have n2_ := Aside0.mk (Kd.S_elder' (by (with_reducible repeat (first | apply Kd.S_alloc | apply Kd.S_drewN | apply Kd.S_drew)); exact HO365.out) (Kd.R_base ho25) hb); have n3_ := Aside0.mk (Kd.R_below (by (with_reducible repeat (first | apply Kd.R_alloc | apply Kd.R_drewN | apply Kd.R_drew)); exact HO370.out) hb); have n4_ := Aside0.mk (Kd.R_lower (Kd.R_new' ho25 (Kd.R_lt (by (with_reducible repeat (first | apply Kd.R_alloc | apply Kd.R_drewN | apply Kd.R_drew)); exact HO362.out))) (below_size (by repeat (first | (with_reducible first | exact HB.out | apply below_alloc | apply pw_below_drewN | apply below_drew1) | exact HB.out)))); have n5_ := Aside0.mk (below_step (by repeat (first | (with_reducible first | exact HB.out | apply below_alloc | apply pw_below_drewN | apply below_drew1) | exact HB.out)) hb); clear HO359; clear HO362; clear HO365; clear HO370; clear HB; have HO359 := n0_; have HO362 := n1_; have HO365 := n2_; have HO370 := n3_; have HO373 := n4_; have HB := n5_; clear n0_ n1_ n2_ n3_ n4_ n5_; clear hb ho25; obtain ⟨Ao26, co26, eo26⟩ := Kd.R_slice HO370.out; subst eo26; obtain ⟨Ao27, co27, eo27⟩ := Kd.R_slice HO373.out; subst eo27) | ((with_reducible refine gate_callee (f := 9) rfl ?_); refine goesL_ (some 16) rfl rfl Try.func9 (by kernel_rfl) rfl #[.agg #[.int .i64 t367, .slice Ao26 t368.length co26], .slice Ao27 y371.length co27, .int .i64 0, .int .i64 2] rfl (by (try simp only [List.map_toArray, List.map_cons, List.map_nil]); first | done | rfl | (simp only [List.length_drop, List.length_take]; rfl)) ?_; (with_reducible refine (strand_Split.calls k t367 _ _ t368 _ _ y371 0 2 t374 t377 _ ?side1 ?side2 ?side3 ?side4 A4.out).mono ?_); (case side1 => repeat (first | exact (Kd.R_reads' HO370.out).2.2 | (with_reducible refine Kd.C_alloc ?_ _) | (with_reducible refine Kd.C_drewN ?_ _) | (with_reducible refine Kd.C_drew ?_))); (case side2 => exact (Kd.R_reads' HO370.out).2.1); (case side3 => repeat (first | exact (Kd.R_reads' HO373.out).2.2 | (with_reducible refine Kd.C_alloc ?_ _) | (with_reducible refine Kd.C_drewN ?_ _) | (with_reducible refine Kd.C_drew ?_))); (case side4 => exact (Kd.R_reads' HO373.out).2.1); rintro e w28 ⟨v375, rfl, ho0, hb⟩; refine ⟨_, rfl, ?_⟩; have n0_ := Aside0.mk (Kd.R_below (by (with_reducible repeat (first | apply Kd.R_alloc | apply Kd.R_drewN | apply Kd.R_drew)); exact HO359.out) hb); have n1_ := Aside0.mk (Kd.R_below (by (with_reducible repeat (first | apply Kd.R_alloc | apply Kd.R_drewN | apply Kd.R_drew)); exact HO362.out) hb); have n2_ := Aside0.mk (Kd.S_elder' (by (with_reducible repeat (first | apply Kd.S_alloc | apply Kd.S_drewN | apply Kd.S_drew)); exact HO365.out) (Kd.S_base ho0) hb); have n3_ := Aside0.mk (Kd.R_below (by (with_reducible repeat (first | apply Kd.R_alloc | apply Kd.R_drewN | apply Kd.R_drew)); exact HO370.out) hb); have n4_ := Aside0.mk (Kd.R_below (by (with_reducible repeat (first | apply Kd.R_alloc | apply Kd.R_drewN | apply Kd.R_drew)); exact HO373.out) hb); have n5_ := Aside0.mk (Kd.S_lower (Kd.S_new' (Kd.S_new' (Kd.S_new' ho0 (Kd.R_lt (by (with_reducible repeat (first | apply Kd.R_alloc | apply Kd.R_drewN | apply Kd.R_drew)); exact HO362.out))) (Kd.S_lt (by (with_reducible repeat (first | apply Kd.S_alloc | apply Kd.S_drewN | apply Kd.S_drew)); exact HO365.out))) (Kd.R_lt (by (with_reducible repeat (first | apply Kd.R_alloc | apply Kd.R_drewN | apply Kd.R_drew)); exact HO373.out))) (below_size (by repeat (first | (with_reducible first | exact HB.out | apply below_alloc | apply pw_below_drewN | apply below_drew1) | exact HB.out)))); have n6_ := Aside0.mk (below_step (by repeat (first | (with_reducible first | exact HB.out | apply below_alloc | apply pw_below_drewN | apply below_drew1) | exact HB.out)) hb); clear HO359; clear HO362; clear HO365; clear HO370; clear HO373; clear HB; have HO359 := n0_; have HO362 := n1_; have HO365 := n2_; have HO370 := n3_; have HO373 := n4_; have HO376 := n5_; have HB := n6_; clear n0_ n1_ n2_ n3_ n4_ n5_ n6_; (try clear hb); (try clear hb2); (try clear hk); (try clear hi); (try clear ho0)) | ((with_reducible refine gate_callee (f := 23) rfl ?_); refine goesL_ (some 20) rfl rfl Try.func23 (by kernel_rfl) rfl #[] rfl (by (try simp only [List.map_toArray, List.map_cons, List.map_nil]); first | done | rfl | (simp only [List.length_drop, List.length_take]; rfl)) ?_; (with_reducible refine (tollbarlaw15_small.calls  t378 t379 _ A5.out).mono ?_); rintro e w29 ⟨v380, rfl, ho0, hb⟩; refine ⟨_, rfl, ?_⟩; have n0_ := Aside0.mk (Kd.R_elder' (by (with_reducible repeat (first | apply Kd.R_alloc | apply Kd.R_drewN | apply Kd.R_drew)); exact HO359.out) (Kd.R_base ho0) hb); have n1_ := Aside0.mk (Kd.R_below (by (with_reducible repeat (first | apply Kd.R_alloc | apply Kd.R_drewN | apply Kd.R_drew)); exact HO362.out) hb); have n2_ := Aside0.mk (Kd.S_below (by (with_reducible repeat (first | apply Kd.S_alloc | apply Kd.S_drewN | apply Kd.S_drew)); exact HO365.out) hb); have n3_ := Aside0.mk (Kd.R_elder' (by (with_reducible repeat (first | apply Kd.R_alloc | apply Kd.R_drewN | apply Kd.R_drew)); exact HO370.out) (Kd.R_base ho0) hb); have n4_ := Aside0.mk (Kd.R_below (by (with_reducible repeat (first | apply Kd.R_alloc | apply Kd.R_drewN | apply Kd.R_drew)); exact HO373.out) hb); have n5_ := Aside0.mk (Kd.S_below (by (with_reducible repeat (first | apply Kd.S_alloc | apply Kd.S_drewN | apply Kd.S_drew)); exact HO376.out) hb); have n6_ := Aside0.mk (Kd.R_lower (Kd.R_new' (Kd.R_new' ho0 (Kd.R_lt (by (with_reducible repeat (first | apply Kd.R_alloc | apply Kd.R_drewN | apply Kd.R_drew)); exact HO359.out))) (Kd.R_lt (by (with_reducible repeat (first | apply Kd.R_alloc | apply Kd.R_drewN | apply Kd.R_drew)); exact HO370.out))) (below_size (by repeat (first | (with_reducible first | exact HB.out | apply below_alloc | apply pw_below_drewN | apply below_drew1) | exact HB.out)))); have n7_ := Aside0.mk (below_step (by repeat (first | (with_reducible first | exact HB.out | apply below_alloc | apply pw_below_drewN | apply below_drew1) | exact HB.out)) hb); clear HO359; clear HO362; clear HO365; clear HO370; clear HO373; clear HO376; clear HB; have HO359 := n0_; have HO362 := n1_; have HO365 := n2_; have HO370 := n3_; have HO373 := n4_; have HO376 := n5_; have HO381 := n6_; have HB := n7_; clear n0_ n1_ n2_ n3_ n4_ n5_ n6_ n7_; (try clear hb); (try clear hb2); (try clear hk); (try clear hi); (try clear ho0)) | ((with_reducible refine gate_dst (N := 21) rfl ?_); (try (refine gate_guard (by rfl) ?_; dsimp only)); refine Kd.R_lit (Kd.int .i64) _ 3 ?hg (N := 21) ?hd (xs := ([4, 3, 3] : List Int)) (inner := [.int .i64 4, .int .i64 3, .int .i64 3]) (ok := fun _ => True) (okp := fun _ => True) ?hr ?hp (fun _ hk => hk) trivial (Below.refl _ _) (Nat.le_refl _) (by simp) ?_; (case hd => rfl); (case hg => rfl); (case hr => first | (go_simp; done) | (go_simp; rfl)); (case hp => exact (Reps.one (show Kd.M (Kd.int .i64) _ _ _ 4 [.int .i64 4] from rfl) (Reps.one (show Kd.M (Kd.int .i64) _ _ _ 3 [.int .i64 3] from rfl) (Reps.one (show Kd.M (Kd.int .i64) _ _ _ 3 [.int .i64 3] from rfl) (Reps.none _ _))))); intro v383 w30 ho31 hb hg_ hnew_; clear hg_ hnew_; (first | rw [← Ny382.out] at ho31 | (simp only [Int.reduceToNat] at ho31; rw [← Ny382.out] at ho31)); have n0_ := Aside0.mk (Kd.R_below (by (with_reducible repeat (first | apply Kd.R_alloc | apply Kd.R_drewN | apply Kd.R_drew)); exact HO359.out) hb); have n1_ := Aside0.mk (Kd.R_elder' (by (with_reducible repeat (first | apply Kd.R_alloc | apply Kd.R_drewN | apply Kd.R_drew)); exact HO362.out) (Kd.R_base ho31) hb); have n2_ := Aside0.mk (Kd.S_elder' (by (with_reducible repeat (first | apply Kd.S_alloc | apply Kd.S_drewN | apply Kd.S_drew)); exact HO365.out) (Kd.R_base ho31) hb); have n3_ := Aside0.mk (Kd.R_below (by (with_reducible repeat (first | apply Kd.R_alloc | apply Kd.R_drewN | apply Kd.R_drew)); exact HO370.out) hb); have n4_ := Aside0.mk (Kd.R_elder' (by (with_reducible repeat (first | apply Kd.R_alloc | apply Kd.R_drewN | apply Kd.R_drew)); exact HO373.out) (Kd.R_base ho31) hb); have n5_ := Aside0.mk (Kd.S_elder' (by (with_reducible repeat (first | apply Kd.S_alloc | apply Kd.S_drewN | apply Kd.S_drew)); exact HO376.out) (Kd.R_base ho31) hb); have n6_ := Aside0.mk (Kd.R_below (by (with_reducible repeat (first | apply Kd.R_alloc | apply Kd.R_drewN | apply Kd.R_drew)); exact HO381.out) hb); have n7_ := Aside0.mk (Kd.R_lower (Kd.R_new' (Kd.R_new' ho31 (Kd.R_lt (by (with_reducible repeat (first | apply Kd.R_alloc | apply Kd.R_drewN | apply Kd.R_drew)); exact HO362.out))) (Kd.R_lt (by (with_reducible repeat (first | apply Kd.R_alloc | apply Kd.R_drewN | apply Kd.R_drew)); exact HO373.out))) (below_size (by repeat (first | (with_reducible first | exact HB.out | apply below_alloc | apply pw_below_drewN | apply below_drew1) | exact HB.out)))); have n8_ := Aside0.mk (below_step (by repeat (first | (with_reducible first | exact HB.out | apply below_alloc | apply pw_below_drewN | apply below_drew1) | exact HB.out)) hb); clear HO359; clear HO362; clear HO365; clear HO370; clear HO373; clear HO376; clear HO381; clear HB; have HO359 := n0_; have HO362 := n1_; have HO365 := n2_; have HO370 := n3_; have HO373 := n4_; have HO376 := n5_; have HO381 := n6_; have HO384 := n7_; have HB := n8_; clear n0_ n1_ n2_ n3_ n4_ n5_ n6_ n7_ n8_; clear hb ho31; obtain ⟨Ao32, co32, eo32⟩ := Kd.R_slice HO381.out; subst eo32; obtain ⟨Ao33, co33, eo33⟩ := Kd.R_slice HO384.out; subst eo33) | ((with_reducible refine gate_callee (f := 9) rfl ?_); refine goesL_ (some 22) rfl rfl Try.func9 (by kernel_rfl) rfl #[.agg #[.int .i64 t378, .slice Ao32 t379.length co32], .slice Ao33 y382.length co33, .int .i64 0, .int .i64 2] rfl (by (try simp only [List.map_toArray, List.map_cons, List.map_nil]); first | done | rfl | (simp only [List.length_drop, List.length_take]; rfl)) ?_; (with_reducible refine (strand_Split.calls k t378 _ _ t379 _ _ y382 0 2 t385 t388 _ ?side1 ?side2 ?side3 ?side4 A6.out).mono ?_); (case side1 => repeat (first | exact (Kd.R_reads' HO381.out).2.2 | (with_reducible refine Kd.C_alloc ?_ _) | (with_reducible refine Kd.C_drewN ?_ _) | (with_reducible refine Kd.C_drew ?_))); (case side2 => exact (Kd.R_reads' HO381.out).2.1); (case side3 => repeat (first | exact (Kd.R_reads' HO384.out).2.2 | (with_reducible refine Kd.C_alloc ?_ _) | (with_reducible refine Kd.C_drewN ?_ _) | (with_reducible refine Kd.C_drew ?_))); (case side4 => exact (Kd.R_reads' HO384.out).2.1); rintro e w34 ⟨v386, rfl, ho0, hb⟩; refine ⟨_, rfl, ?_⟩; have n0_ := Aside0.mk (Kd.R_below (by (with_reducible repeat (first | apply Kd.R_alloc | apply Kd.R_drewN | apply Kd.R_drew)); exact HO359.out) hb); have n1_ := Aside0.mk (Kd.R_below (by (with_reducible repeat (first | apply Kd.R_alloc | apply Kd.R_drewN | apply Kd.R_drew)); exact HO362.out) hb); have n2_ := Aside0.mk (Kd.S_elder' (by (with_reducible repeat (first | apply Kd.S_alloc | apply Kd.S_drewN | apply Kd.S_drew)); exact HO365.out) (Kd.S_base ho0) hb); have n3_ := Aside0.mk (Kd.R_below (by (with_reducible repeat (first | apply Kd.R_alloc | apply Kd.R_drewN | apply Kd.R_drew)); exact HO370.out) hb); have n4_ := Aside0.mk (Kd.R_below (by (with_reducible repeat (first | apply Kd.R_alloc | apply Kd.R_drewN | apply Kd.R_drew)); exact HO373.out) hb); have n5_ := Aside0.mk (Kd.S_elder' (by (with_reducible repeat (first | apply Kd.S_alloc | apply Kd.S_drewN | apply Kd.S_drew)); exact HO376.out) (Kd.S_base ho0) hb); have n6_ := Aside0.mk (Kd.R_below (by (with_reducible repeat (first | apply Kd.R_alloc | apply Kd.R_drewN | apply Kd.R_drew)); exact HO381.out) hb); have n7_ := Aside0.mk (Kd.R_below (by (with_reducible repeat (first | apply Kd.R_alloc | apply Kd.R_drewN | apply Kd.R_drew)); exact HO384.out) hb); have n8_ := Aside0.mk (Kd.S_lower (Kd.S_new' (Kd.S_new' (Kd.S_new' (Kd.S_new' (Kd.S_new' ho0 (Kd.R_lt (by (with_reducible repeat (first | apply Kd.R_alloc | apply Kd.R_drewN | apply Kd.R_drew)); exact HO362.out))) (Kd.S_lt (by (with_reducible repeat (first | apply Kd.S_alloc | apply Kd.S_drewN | apply Kd.S_drew)); exact HO365.out))) (Kd.R_lt (by (with_reducible repeat (first | apply Kd.R_alloc | apply Kd.R_drewN | apply Kd.R_drew)); exact HO373.out))) (Kd.S_lt (by (with_reducible repeat (first | apply Kd.S_alloc | apply Kd.S_drewN | apply Kd.S_drew)); exact HO376.out))) (Kd.R_lt (by (with_reducible repeat (first | apply Kd.R_alloc | apply Kd.R_drewN | apply Kd.R_drew)); exact HO384.out))) (below_size (by repeat (first | (with_reducible first | exact HB.out | apply below_alloc | apply pw_below_drewN | apply below_drew1) | exact HB.out)))); have n9_ := Aside0.mk (below_step (by repeat (first | (with_reducible first | exact HB.out | apply below_alloc | apply pw_below_drewN | apply below_drew1) | exact HB.out)) hb); clear HO359; clear HO362; clear HO365; clear HO370; clear HO373; clear HO376; clear HO381; clear HO384; clear HB; have HO359 := n0_; have HO362 := n1_; have HO365 := n2_; have HO370 := n3_; have HO373 := n4_; have HO376 := n5_; have HO381 := n6_; have HO384 := n7_; have HO387 := n8_; have HB := n9_; clear n0_ n1_ n2_ n3_ n4_ n5_ n6_ n7_ n8_ n9_; (try clear hb); (try clear hb2); (try clear hk); (try clear hi); (try clear ho0); obtain ⟨Ao35, co35, eo35⟩ := Kd.S_slice HO365.out; subst eo35) | (go_at_call 23; (with_reducible refine (tollbarlaw15_small.calls  t389 t390 _ A8.out).mono ?_); rintro e w36 ⟨v391, rfl, ho0, hb⟩; have n0_ := Aside0.mk (Kd.R_elder' (by (with_reducible repeat (first | apply Kd.R_alloc | apply Kd.R_drewN | apply Kd.R_drew)); exact HO359.out) (Kd.R_base ho0) hb); have n1_ := Aside0.mk (Kd.R_below (by (with_reducible repeat (first | apply Kd.R_alloc | apply Kd.R_drewN | apply Kd.R_drew)); exact HO362.out) hb); have n2_ := Aside0.mk (Kd.S_below (by (with_reducible repeat (first | apply Kd.S_alloc | apply Kd.S_drewN | apply Kd.S_drew)); exact HO365.out) hb); have n3_ := Aside0.mk (Kd.R_elder' (by (with_reducible repeat (first | apply Kd.R_alloc | apply Kd.R_drewN | apply Kd.R_drew)); exact HO370.out) (Kd.R_base ho0) hb); have n4_ := Aside0.mk (Kd.R_below (by (with_reducible repeat (first | apply Kd.R_alloc | apply Kd.R_drewN | apply Kd.R_drew)); exact HO373.out) hb); have n5_ := Aside0.mk (Kd.S_below (by (with_reducible repeat (first | apply Kd.S_alloc | apply Kd.S_drewN | apply Kd.S_drew)); exact HO376.out) hb); have n6_ := Aside0.mk (Kd.R_elder' (by (with_reducible repeat (first | apply Kd.R_alloc | apply Kd.R_drewN | apply Kd.R_drew)); exact HO381.out) (Kd.R_base ho0) hb); have n7_ := Aside0.mk (Kd.R_below (by (with_reducible repeat (first | apply Kd.R_alloc | apply Kd.R_drewN | apply Kd.R_drew)); exact HO384.out) hb); have n8_ := Aside0.mk (Kd.S_below (by (with_reducible repeat (first | apply Kd.S_alloc | apply Kd.S_drewN | apply Kd.S_drew)); exact HO387.out) hb); have n9_ := Aside0.mk (Kd.R_lower (Kd.R_new' (Kd.R_new' (Kd.R_new' ho0 (Kd.R_lt (by (with_reducible repeat (first | apply Kd.R_alloc | apply Kd.R_drewN | apply Kd.R_drew)); exact HO359.out))) (Kd.R_lt (by (with_reducible repeat (first | apply Kd.R_alloc | apply Kd.R_drewN | apply Kd.R_drew)); exact HO370.out))) (Kd.R_lt (by (with_reducible repeat (first | apply Kd.R_alloc | apply Kd.R_drewN | apply Kd.R_drew)); exact HO381.out))) (below_size (by repeat (first | (with_reducible first | exact HB.out | apply below_alloc | apply pw_below_drewN | apply below_drew1) | exact HB.out)))); have n10_ := Aside0.mk (below_step (by repeat (first | (with_reducible first | exact HB.out | apply below_alloc | apply pw_below_drewN | apply below_drew1) | exact HB.out)) hb); clear HO359; clear HO362; clear HO365; clear HO370; clear HO373; clear HO376; clear HO381; clear HO384; clear HO387; clear HB; have HO359 := n0_; have HO362 := n1_; have HO365 := n2_; have HO370 := n3_; have HO373 := n4_; have HO376 := n5_; have HO381 := n6_; have HO384 := n7_; have HO387 := n8_; have HO392 := n9_; have HB := n10_; clear n0_ n1_ n2_ n3_ n4_ n5_ n6_ n7_ n8_ n9_ n10_; (try clear hb); (try clear hb2); (try clear hk); (try clear hi); (try clear ho0); obtain ⟨Ao37, co37, eo37⟩ := Kd.R_slice HO392.out; subst eo37) | (go_at_call 14; (with_reducible refine (tollbarref4_BundleMay.calls k t389 _ _ t390 0 2 7 _ _ t363 true _ ?side1 ?side2 ?side3 ?side4 A9.out).mono ?_); (case side1 => repeat (first | exact (Kd.R_reads' HO392.out).2.2 | (with_reducible refine Kd.C_alloc ?_ _) | (with_reducible refine Kd.C_drewN ?_ _) | (with_reducible refine Kd.C_drew ?_))); (case side2 => exact (Kd.R_reads' HO392.out).2.1); (case side3 => repeat (first | exact (Kd.S_reads' HO365.out).2.2 | (with_reducible refine Kd.C_alloc ?_ _) | (with_reducible refine Kd.C_drewN ?_ _) | (with_reducible refine Kd.C_drew ?_))); (case side4 => exact (Kd.S_reads' HO365.out).2.1); rintro e w38 ⟨rfl, hb⟩; have n0_ := Aside0.mk (Kd.R_below (by (with_reducible repeat (first | apply Kd.R_alloc | apply Kd.R_drewN | apply Kd.R_drew)); exact HO359.out) hb); have n1_ := Aside0.mk (Kd.R_below (by (with_reducible repeat (first | apply Kd.R_alloc | apply Kd.R_drewN | apply Kd.R_drew)); exact HO362.out) hb); have n2_ := Aside0.mk (Kd.S_below (by (with_reducible repeat (first | apply Kd.S_alloc | apply Kd.S_drewN | apply Kd.S_drew)); exact HO365.out) hb); have n3_ := Aside0.mk (Kd.R_below (by (with_reducible repeat (first | apply Kd.R_alloc | apply Kd.R_drewN | apply Kd.R_drew)); exact HO370.out) hb); have n4_ := Aside0.mk (Kd.R_below (by (with_reducible repeat (first | apply Kd.R_alloc | apply Kd.R_drewN | apply Kd.R_drew)); exact HO373.out) hb); have n5_ := Aside0.mk (Kd.S_below (by (with_reducible repeat (first | apply Kd.S_alloc | apply Kd.S_drewN | apply Kd.S_drew)); exact HO376.out) hb); have n6_ := Aside0.mk (Kd.R_below (by (with_reducible repeat (first | apply Kd.R_alloc | apply Kd.R_drewN | apply Kd.R_drew)); exact HO381.out) hb); have n7_ := Aside0.mk (Kd.R_below (by (with_reducible repeat (first | apply Kd.R_alloc | apply Kd.R_drewN | apply Kd.R_drew)); exact HO384.out) hb); have n8_ := Aside0.mk (Kd.S_below (by (with_reducible repeat (first | apply Kd.S_alloc | apply Kd.S_drewN | apply Kd.S_drew)); exact HO387.out) hb); have n9_ := Aside0.mk (Kd.R_below (by (with_reducible repeat (first | apply Kd.R_alloc | apply Kd.R_drewN | apply Kd.R_drew)); exact HO392.out) hb); have n10_ := Aside0.mk (below_step (by repeat (first | (with_reducible first | exact HB.out | apply below_alloc | apply pw_below_drewN | apply below_drew1) | exact HB.out)) hb); clear HO359; clear HO362; clear HO365; clear HO370; clear HO373; clear HO376; clear HO381; clear HO384; clear HO387; clear HO392; clear HB; have HO359 := n0_; have HO362 := n1_; have HO365 := n2_; have HO370 := n3_; have HO373 := n4_; have HO376 := n5_; have HO381 := n6_; have HO384 := n7_; have HO387 := n8_; have HO392 := n9_; have HB := n10_; clear n0_ n1_ n2_ n3_ n4_ n5_ n6_ n7_ n8_ n9_ n10_; (try clear hb); (try clear hb2); (try clear hk); (try clear hi)) | (go_at_call 12; (with_reducible refine (tollbarlaw0_Num.calls t366 t394 _ A11.out).mono ?_); rintro e w' ⟨rfl, ⟨nd, rfl⟩⟩; obtain ⟨Ao39, co39, eo39⟩ := Kd.S_slice HO376.out; subst eo39) | (go_at_call 12; (with_reducible refine (tollbarlaw0_Num.calls t377 t395 _ A14.out).mono ?_); rintro e w' ⟨rfl, ⟨nd, rfl⟩⟩) | (go_at_call 12; (with_reducible refine (tollbarlaw0_Num.calls t388 t396 _ A16.out).mono ?_); rintro e w' ⟨rfl, ⟨nd, rfl⟩⟩))
      go_ret
      exact ⟨by first | rfl | (simp [errW_none, errW_some] <;> rfl) | (simp [*, errW_none, errW_some] <;> rfl), by repeat (first | (with_reducible first | exact HB.out | apply below_alloc | apply pw_below_drewN | apply below_drew1) | exact HB.out)⟩
     ·
      rw [if_neg c15] at H
      exact absurd H (by simp)
    ·
     rw [if_neg c13] at H
     exact absurd H (by simp)
   ·
    rw [if_neg c12] at H
    exact absurd H (by simp)
  ·
   replace c10 := Bool.eq_false_iff.mpr c10
   subst c10
   have H1 : (none) = some r := by rw [if_neg (show ¬ (false = true) by decide)] at H; exact H
   clear H
   have H := H1
   clear H1
   exact absurd H (by simp)
 ·
  rw [if_neg c7] at H
  exact absurd H (by simp)
def tollbarref1_Rate.f (a0 : Int) : Option (Bool) := if a0 ≥ 0 then (some (decide (a0 ≤ 4611686018427387904))) else (some false)
theorem tollbarref1_Rate.calls (a0 : Int) (r : Bool) (w : World) (h : tollbarref1_Rate.f a0 = some r) :
    Calls Try.prog 31 #[.int .i64 a0] w fun e w' => e = .returned (.bool r) ∧ Drawn0 w w' := by
  have H : (if a0 ≥ 0 then (some (decide (a0 ≤ 4611686018427387904))) else (some false)) = some r := h
  clear h
  by_cases c2 : a0 ≥ 0
  · rw [if_pos c2] at H
    have c2b0 : decide (0 ≤ a0) = true := decide_eq_true c2
    clear c2
    obtain rfl := Option.some.inj H
    go_enter Try.func31, Try.ntmps31
    go_wp2
    go_ret
    exact ⟨by first | rfl | (simp; done) | (simp [*]; done), by repeat (first | exact Drawn0.refl _ | apply Drawn0.step)⟩
  · rw [if_neg c2] at H
    have c2b0 : decide (0 ≤ a0) = false := decide_eq_false c2
    clear c2
    obtain rfl := Option.some.inj H
    go_enter Try.func31, Try.ntmps31
    go_wp2
    go_ret
    exact ⟨by first | rfl | (simp; done) | (simp [*]; done), by repeat (first | exact Drawn0.refl _ | apply Drawn0.step)⟩
mutual
def tollbarref4_Loads.j0 : Nat → List (S48) → Bool → Int → List (S53) → Option (List Int × Int)
 | 0, _, _, _, _ => none
 | k + 1, x1, x18, x398000, x398001 => if x18 = true then (some (([] : List Int), 700)) else (tollbarref4_Loads.l0 k x1 0 x398000 x398001)
def tollbarref4_Loads.l0 : Nat → List (S48) → Int → Int → List (S53) → Option (List Int × Int)
 | 0, _, _, _, _ => none
 | k + 1, x1, x6, x398000, x398001 => if x6 < (x1.length : Int) then (if 0 ≤ x6 then ((tollbarref1_Rate.f ((rd_T48 x1 x6).f0)).bind fun t400 => (if t400 = true then ((tollbarref4_links.f k x398000 x398001 ((rd_T48 x1 x6).f1)).bind fun t402 => (if t402 = true then (tollbarref4_Loads.l0 k x1 (wrap64 (x6 + 1)) x398000 x398001) else (some (([] : List Int), 700)))) else (some (([] : List Int), 700)))) else (none)) else (if 0 ≤ (x398001.length : Int) then (if ((x398001.length : Int) : Int).toNat ≤ 35184372088832 then (tollbarref4_Loads.l1 k x1 (List.replicate ((x398001.length : Int) : Int).toNat 0) 0) else (none)) else (none))
def tollbarref4_Loads.l1 : Nat → List (S48) → List Int → Int → Option (List Int × Int)
 | 0, _, _, _ => none
 | k + 1, x1, x7, x8 => if x8 < (x1.length : Int) then (tollbarref4_Loads.l2 k x1 x7 x8 0) else (some (x7, 0))
def tollbarref4_Loads.l2 : Nat → List (S48) → List Int → Int → Int → Option (List Int × Int)
 | 0, _, _, _, _ => none
 | k + 1, x1, x7, x8, x9 => if 0 ≤ x8 then (if x8 < (x1.length : Int) then (if x9 < (((rd_T48 x1 x8).f1).length : Int) then (if 0 ≤ x9 then (if 0 ≤ (rd ((rd_T48 x1 x8).f1) x9) then (if (rd ((rd_T48 x1 x8).f1) x9) < (x7.length : Int) then (if ((rd_T48 x1 x8).f0) > (wrap64 (4611686018427387904 - (rd x7 (rd ((rd_T48 x1 x8).f1) x9)))) then (some (([] : List Int), 701)) else (tollbarref4_Loads.l2 k x1 (x7.set ((rd ((rd_T48 x1 x8).f1) x9) : Int).toNat (wrap64 ((rd x7 (rd ((rd_T48 x1 x8).f1) x9)) + ((rd_T48 x1 x8).f0)))) x8 (wrap64 (x9 + 1)))) else (none)) else (none)) else (none)) else (tollbarref4_Loads.l1 k x1 x7 (wrap64 (x8 + 1)))) else (none)) else (none)
end
def tollbarref4_Loads.f (k : Nat) (a0_0 : Int) (l0_1 : List (S53)) (l1 : List (S48)) : Option (List Int × Int) := (tollbarref4_GraphMay.f k a0_0 l0_1).bind fun t398 => (if t398 = true then (tollbarref4_Loads.j0 k l1 (decide ((l1.length : Int) > 16)) a0_0 l0_1) else (tollbarref4_Loads.j0 k l1 true a0_0 l0_1))
def tollbarref4_Loads.T6 : Bool × List (List Nat × List Nat) := (true, [([], []), ([], []), ([0, 1], [0, 1]), ([2], [2]), ([3], [3]), ([4], [4]), ([5], [5]), ([6, 5], [6]), ([7], [7]), ([7], [7]), ([7], [7]), ([9, 10, 7], [7, 9, 10]), ([11, 7], [7, 11]), ([12, 7], [7, 12]), ([8, 13, 7, 7], [7, 8, 13]), ([14, 7], [7, 14]), ([7, 15], [7, 15])])
def tollbarref4_Loads.B6 : List Nat := [0, 0, 3, 7, 15, 31, 63, 127, 255, 255, 255, 1791, 3839, 7935, 16383, 32767, 65535]
theorem tollbarref4_Loads.tab6 : rtab .any (opsOf Try.f15 6) = tollbarref4_Loads.T6 := by kernel_rfl
theorem tollbarref4_Loads.bits6 : waitsOk tollbarref4_Loads.T6.2 tollbarref4_Loads.B6 = true := by kernel_rfl
def tollbarref4_Loads.T16 : Bool × List (List Nat × List Nat) := (true, [([], []), ([], []), ([0, 1], [0, 1]), ([2], [2]), ([3], [3]), ([], []), ([], []), ([5, 6], [5, 6]), ([7], [7]), ([8], [8]), ([4, 9], [4, 9])])
def tollbarref4_Loads.B16 : List Nat := [0, 0, 3, 7, 15, 0, 0, 96, 224, 480, 1023]
theorem tollbarref4_Loads.tab16 : rtab .any (opsOf Try.f15 16) = tollbarref4_Loads.T16 := by kernel_rfl
theorem tollbarref4_Loads.bits16 : waitsOk tollbarref4_Loads.T16.2 tollbarref4_Loads.B16 = true := by kernel_rfl
def tollbarref4_Loads.T18 : Bool × List (List Nat × List Nat) := (true, [([], []), ([], []), ([], []), ([], []), ([2, 3], [2, 3]), ([4], [4]), ([], []), ([], []), ([6, 7], [6, 7]), ([8], [8]), ([9], [9]), ([5, 10], [5, 10]), ([0, 1, 0, 1, 2, 3, 4, 5, 6, 7, 8, 9, 10, 11], [0, 1]), ([12, 11, 0, 1, 2, 3, 4, 5, 6, 7, 8, 9, 10, 11], [11, 12])])
def tollbarref4_Loads.B18 : List Nat := [0, 0, 0, 0, 12, 28, 0, 0, 192, 448, 960, 2044, 4095, 8191]
theorem tollbarref4_Loads.tab18 : rtab .any (opsOf Try.f15 18) = tollbarref4_Loads.T18 := by kernel_rfl
theorem tollbarref4_Loads.bits18 : waitsOk tollbarref4_Loads.T18.2 tollbarref4_Loads.B18 = true := by kernel_rfl
theorem tollbarref4_Loads.calls (k : Nat) (a0_0 : Int) (A0_1 : Option Addr) (c0_1 : Nat) (l0_1 : List (S53)) (A1 : Option Addr) (c1 : Nat) (l1 : List (S48)) (r1 : List Int) (r2 : Int) (w : World) (hr0_1 : Kd.C k53 w A0_1 l0_1.length l0_1) (hc0_1 : l0_1.length ≤ c0_1) (hr1 : Kd.C k48 w A1 l1.length l1) (hc1 : l1.length ≤ c1) (h : tollbarref4_Loads.f k a0_0 l0_1 l1 = some (r1, r2)) :
  Calls Try.prog 15 #[.agg #[.int .i64 a0_0, .slice A0_1 l0_1.length c0_1], .slice A1 l1.length c1] w fun e w' => ∃ v0_ : Value, e = .returned (.tuple #[v0_, .int .i64 r2]) ∧ Kd.R (Kd.int .i64) 3 w' w.heap.size (fun _ => True) v0_ r1 ∧ Below w.heap.size w w' := by
 have hu24 := Try.underlying24
 have HR0_1 := Aside0.mk hr0_1
 have HC0_1 := Aside0.mk hc0_1
 clear hr0_1 hc0_1
 have HR1 := Aside0.mk hr1
 have HC1 := Aside0.mk hc1
 clear hr1 hc1
 have HB := Aside0.mk (Below.refl w.heap.size w)
 have H : ((tollbarref4_GraphMay.f k a0_0 l0_1).bind fun t398 => (if t398 = true then (tollbarref4_Loads.j0 k l1 (decide ((l1.length : Int) > 16)) a0_0 l0_1) else (tollbarref4_Loads.j0 k l1 true a0_0 l0_1))) = some (r1, r2) := h
 clear h
 have HC3 := Aside0.mk H
 clear H
 go_enter Try.func15, Try.ntmps15
 go_upto_region 1 with (first | ((with_reducible refine gate_dst (N := 2) rfl ?_); (try (refine gate_guard (by rfl) ?_; dsimp only)); refine box_event ?hg (N := 2) ?hd (cs := #[.int .i64 a0_0, .slice A0_1 l0_1.length c0_1]) (t := 24) ?hr ?_; (case hd => rfl); (case hg => rfl); (case hr => first | (go_simp; done) | (go_simp; rfl)); intro gb397 hg w4 hbox hb; have n0_ := Aside0.mk (below_step (by repeat (first | (with_reducible first | exact HB.out | apply below_alloc | apply pw_below_drewN | apply below_drew1) | exact HB.out)) hb); have n1_ := Aside0.mk (hbox); have n2_ := Aside0.mk ((by rw [hg]; exact (below_size (by repeat (first | (with_reducible first | exact HB.out | apply below_alloc | apply pw_below_drewN | apply below_drew1) | exact HB.out))) : w.heap.size ≤ gb397)); have n3_ := Aside0.mk ((by rw [hg]; exact (below_size (by repeat (first | (with_reducible first | exact HB.out | apply below_alloc | apply pw_below_drewN | apply below_drew1) | exact HB.out))) : w.heap.size ≤ gb397)); clear HB; have HB := n0_; have BK397 := n1_; have GW397 := n2_; have GE397 := n3_; clear n0_ n1_ n2_ n3_; clear hb hbox hg))
 (try simp only [Act.put, List.setIfInBounds_toArray, List.set_cons_zero, List.set_cons_succ])
 go_cut [18] (fun v18 wc => ∃ (kq : Nat) (x18_2 : Bool), v18 = .bool x18_2 ∧ Aside0 (tollbarref4_Loads.j0 kq l1 x18_2 a0_0 l0_1 = some (r1, r2)) ∧ Aside0 (kq ≤ k) ∧ Aside0 (wc.heap[gb397]? = some (.cells #[.int .i64 a0_0, (.slice A0_1 l0_1.length c0_1)] 24 (0, 0))) ∧ Aside0 (Below w.heap.size w wc))
 case first =>
  have H := HC3.out
  clear HC3
  replace H := Option.bind_eq_some_iff.mp H
  obtain ⟨t398, A50, H⟩ := H
  replace H : (if t398 = true then (tollbarref4_Loads.j0 k l1 (decide ((l1.length : Int) > 16)) a0_0 l0_1) else (tollbarref4_Loads.j0 k l1 true a0_0 l0_1)) = some (r1, r2) := H
  have A5 := Aside0.mk A50
  clear A50
  by_cases c6 : t398 = true
  ·
   subst c6
   have H1 : (tollbarref4_Loads.j0 k l1 (decide ((l1.length : Int) > 16)) a0_0 l0_1) = some (r1, r2) := by rw [if_pos rfl] at H; exact H
   clear H
   have H := H1
   clear H1
   have H' := Aside0.mk H
   clear H
   have hcz7_0 := blk_at BK397.out 0
   have hcz7_1 := blk_at BK397.out 1
   have hfz7_0 := blk_frozen BK397.out 0
   have hfz7_1 := blk_frozen BK397.out 1
   go_wp2_with (first | ((with_reducible refine gate_callee (f := 29) rfl ?_); refine goesL_ (some 12) rfl rfl Try.func29 (by kernel_rfl) rfl #[.agg #[.int .i64 a0_0, .slice A0_1 l0_1.length c0_1]] rfl (by (try simp only [List.map_toArray, List.map_cons, List.map_nil]); first | done | rfl | (simp only [List.length_drop, List.length_take]; rfl)) ?_; (with_reducible refine (tollbarref4_GraphMay.calls k a0_0 _ _ l0_1 true _ ?side1 ?side2 A5.out).mono ?_); (case side1 => repeat (first | exact (Kd.C_below HR0_1.out HB.out) | (with_reducible refine Kd.C_alloc ?_ _) | (with_reducible refine Kd.C_drewN ?_ _) | (with_reducible refine Kd.C_drew ?_))); (case side2 => exact HC0_1.out); rintro e w8 ⟨rfl, hb⟩; refine ⟨_, rfl, ?_⟩; have n0_ := Aside0.mk (blk_below (g := gb397) (o := .cells #[.int .i64 a0_0, .slice A0_1 l0_1.length c0_1] 24 (0, 0)) (by (with_reducible repeat (first | refine blk_drewN ?_ _ | refine blk_drew ?_ | refine blk_alloc ?_ _)); exact BK397.out) hb); have n1_ := Aside0.mk (below_step (by repeat (first | (with_reducible first | exact HB.out | apply below_alloc | apply pw_below_drewN | apply below_drew1 | refine below_set ?_ GE397.out) | exact HB.out)) hb); clear BK397; clear HB; have BK397 := n0_; have HB := n1_; clear n0_ n1_; (try clear hb); (try clear hb2); (try clear hk); (try clear hi)))
   go_meet
   case rel => exact ⟨_, (decide ((l1.length : Int) > 16)), (by first | rfl | (simp; done) | (simp [*]; done)), H', ⟨by first | omega | exact Nat.le_refl _⟩, ⟨by (with_reducible repeat (first | refine blk_drewN ?_ _ | refine blk_drew ?_ | refine blk_alloc ?_ _)); exact BK397.out⟩, ⟨by repeat (first | (with_reducible first | exact HB.out | apply below_alloc | apply pw_below_drewN | apply below_drew1 | refine below_set ?_ GE397.out) | exact HB.out)⟩⟩
  ·
   replace c6 := Bool.eq_false_iff.mpr c6
   subst c6
   have H1 : (tollbarref4_Loads.j0 k l1 true a0_0 l0_1) = some (r1, r2) := by rw [if_neg (show ¬ (false = true) by decide)] at H; exact H
   clear H
   have H := H1
   clear H1
   have H' := Aside0.mk H
   clear H
   have hcz9_0 := blk_at BK397.out 0
   have hcz9_1 := blk_at BK397.out 1
   have hfz9_0 := blk_frozen BK397.out 0
   have hfz9_1 := blk_frozen BK397.out 1
   go_wp2_with (first | ((with_reducible refine gate_callee (f := 29) rfl ?_); refine goesL_ (some 12) rfl rfl Try.func29 (by kernel_rfl) rfl #[.agg #[.int .i64 a0_0, .slice A0_1 l0_1.length c0_1]] rfl (by (try simp only [List.map_toArray, List.map_cons, List.map_nil]); first | done | rfl | (simp only [List.length_drop, List.length_take]; rfl)) ?_; (with_reducible refine (tollbarref4_GraphMay.calls k a0_0 _ _ l0_1 false _ ?side1 ?side2 A5.out).mono ?_); (case side1 => repeat (first | exact (Kd.C_below HR0_1.out HB.out) | (with_reducible refine Kd.C_alloc ?_ _) | (with_reducible refine Kd.C_drewN ?_ _) | (with_reducible refine Kd.C_drew ?_))); (case side2 => exact HC0_1.out); rintro e w10 ⟨rfl, hb⟩; refine ⟨_, rfl, ?_⟩; have n0_ := Aside0.mk (blk_below (g := gb397) (o := .cells #[.int .i64 a0_0, .slice A0_1 l0_1.length c0_1] 24 (0, 0)) (by (with_reducible repeat (first | refine blk_drewN ?_ _ | refine blk_drew ?_ | refine blk_alloc ?_ _)); exact BK397.out) hb); have n1_ := Aside0.mk (below_step (by repeat (first | (with_reducible first | exact HB.out | apply below_alloc | apply pw_below_drewN | apply below_drew1 | refine below_set ?_ GE397.out) | exact HB.out)) hb); clear BK397; clear HB; have BK397 := n0_; have HB := n1_; clear n0_ n1_; (try clear hb); (try clear hb2); (try clear hk); (try clear hi)))
   go_meet
   case rel => exact ⟨_, (true), (by first | rfl | (simp; done) | (simp [*]; done)), H', ⟨by first | omega | exact Nat.le_refl _⟩, ⟨by (with_reducible repeat (first | refine blk_drewN ?_ _ | refine blk_drew ?_ | refine blk_alloc ?_ _)); exact BK397.out⟩, ⟨by repeat (first | (with_reducible first | exact HB.out | apply below_alloc | apply pw_below_drewN | apply below_drew1 | refine below_set ?_ GE397.out) | exact HB.out)⟩⟩
 case rest =>
  clear HC3
  try clear c1
  try clear c2
  try clear p2
  try clear c6
  try clear hcz7_0
  try clear hcz7_1
  try clear hcz9_0
  try clear hcz9_1
  try clear hfz7_0
  try clear hfz7_1
  try clear hfz9_0
  try clear hfz9_1
  obtain ⟨kq, x18_2, rfl, HA, HJ2, BK397, HB⟩ := hcut
  cases kq with
  | zero => exact absurd HA.out (by simp [tollbarref4_Loads.j0])
  | succ kj2 =>
   have H := HA.out
   clear HA
   simp only [tollbarref4_Loads.j0] at H
   by_cases c11 : x18_2 = true
   ·
    subst c11
    have H1 : (some (([] : List Int), 700)) = some (r1, r2) := by rw [if_pos rfl] at H; exact H
    clear H
    have H := H1
    clear H1
    simp only [Option.some.injEq, Prod.mk.injEq] at H
    obtain ⟨rfl, rfl⟩ := H
    go_wp2
    go_ret2
    exact ⟨_, by first | rfl | (simp [errW_none, errW_some] <;> rfl) | (simp [*, errW_none, errW_some] <;> rfl), by first | exact Kd.R_nil _ _ _ _ _ | exact Kd.N_nil _ _ _ _ _ | exact Kd.V_nil _ _ _ _ _ | exact Kd.Q_nil _ _ _ _ _ | exact Kd.S_nil _ _ _ _ _, by repeat (first | (with_reducible first | exact HB.out | apply below_alloc | apply pw_below_drewN | apply below_drew1 | refine below_set ?_ GE397.out) | exact HB.out)⟩
   ·
    replace c11 := Bool.eq_false_iff.mpr c11
    subst c11
    have H1 : (tollbarref4_Loads.l0 kj2 l1 0 a0_0 l0_1) = some (r1, r2) := by rw [if_neg (show ¬ (false = true) by decide)] at H; exact H
    clear H
    have H := H1
    clear H1
    have H' := Aside0.mk H
    clear H
    go_wp2
    go_loopg [6] kj2 (fun kq v6 w' => ∃ (x6_2 : Int), v6 = .int .i64 x6_2 ∧ Aside0 (tollbarref4_Loads.l0 kq l1 x6_2 a0_0 l0_1 = some (r1, r2)) ∧ Aside0 (kq ≤ kj2) ∧ Aside0 (w'.heap[gb397]? = some (.cells #[.int .i64 a0_0, (.slice A0_1 l0_1.length c0_1)] 24 (0, 0))) ∧ Aside0 (Below w.heap.size w w'))
    case atStart => exact ⟨(0), (by first | rfl | (simp; done) | (simp [*]; done)), H', ⟨Nat.le_refl _⟩, ⟨by (with_reducible repeat (first | refine blk_drewN ?_ _ | refine blk_drew ?_ | refine blk_alloc ?_ _)); exact BK397.out⟩, ⟨by repeat (first | (with_reducible first | exact HB.out | apply below_alloc | apply pw_below_drewN | apply below_drew1 | refine below_set ?_ GE397.out) | exact HB.out)⟩⟩
    case round =>
     clear H'
     try clear c1
     try clear c2
     try clear p2
     try clear c6
     try clear c11
     try clear hcz7_0
     try clear hcz7_1
     try clear hcz9_0
     try clear hcz9_1
     try clear hfz7_0
     try clear hfz7_1
     try clear hfz9_0
     try clear hfz9_1
     try clear p2
     obtain ⟨x6_2, rfl, HA, HK2, BK397, HB⟩ := hrel
     cases gk with
     | zero => exact absurd HA.out (by simp [tollbarref4_Loads.l0])
     | succ k2 =>
      have H := HA.out
      clear HA
      simp only [tollbarref4_Loads.l0] at H
      by_cases c12 : x6_2 < (l1.length : Int)
      ·
       rw [if_pos c12] at H
       have c12b0 : decide (x6_2 < (l1.length : Int)) = true := decide_eq_true c12
       clear c12
       by_cases c13 : 0 ≤ x6_2
       ·
        rw [if_pos c13] at H
        have c13b0 : decide (0 ≤ x6_2) = true := decide_eq_true c13
        clear c13
        replace H := Option.bind_eq_some_iff.mp H
        obtain ⟨t400, A140, H⟩ := H
        replace H : (if t400 = true then ((tollbarref4_links.f k2 a0_0 l0_1 ((rd_T48 l1 x6_2).f1)).bind fun t402 => (if t402 = true then (tollbarref4_Loads.l0 k2 l1 (wrap64 (x6_2 + 1)) a0_0 l0_1) else (some (([] : List Int), 700)))) else (some (([] : List Int), 700))) = some (r1, r2) := H
        have A14 := Aside0.mk A140
        clear A140
        by_cases c15 : t400 = true
        ·
         subst c15
         have H1 : ((tollbarref4_links.f k2 a0_0 l0_1 ((rd_T48 l1 x6_2).f1)).bind fun t402 => (if t402 = true then (tollbarref4_Loads.l0 k2 l1 (wrap64 (x6_2 + 1)) a0_0 l0_1) else (some (([] : List Int), 700)))) = some (r1, r2) := by rw [if_pos rfl] at H; exact H
         clear H
         have H := H1
         clear H1
         replace H := Option.bind_eq_some_iff.mp H
         obtain ⟨t402, A160, H⟩ := H
         replace H : (if t402 = true then (tollbarref4_Loads.l0 k2 l1 (wrap64 (x6_2 + 1)) a0_0 l0_1) else (some (([] : List Int), 700))) = some (r1, r2) := H
         have A16 := Aside0.mk A160
         clear A160
         by_cases c17 : t402 = true
         ·
          subst c17
          have H1 : (tollbarref4_Loads.l0 k2 l1 (wrap64 (x6_2 + 1)) a0_0 l0_1) = some (r1, r2) := by rw [if_pos rfl] at H; exact H
          clear H
          have H := H1
          clear H1
          have H' := Aside0.mk H
          clear H
          try go_wp2
          have n0_ := Aside0.mk (blk_drew BK397.out)
          have n1_ := Aside0.mk (below_drew1 HB.out)
          clear BK397
          clear HB
          have BK397 := n0_
          have HB := n1_
          clear n0_ n1_
          have p399 : 0 ≤ (x6_2 : Int) := od
          have q399 : x6_2 < (l1.length : Int) := od
          obtain ⟨ad399, A399_1, c399_1, e399, hx399_0, hx399_1, hl399_1, hi399_1⟩ := at_T48 HR1.out x6_2 p399 q399
          have hw399_1 := hx399_1
          have hw399_0 := hx399_0
          cases e399
          replace hx399_0 := (HB.out.cell (World.block_lt_of_cell? w _ hx399_0)).trans hx399_0
          replace hx399_1 := (HB.out.cell (World.block_lt_of_cell? w _ hx399_1)).trans hx399_1
          have HR399_1 := Aside0.mk hi399_1
          have HC399_1 := Aside0.mk hl399_1
          clear hi399_1 hl399_1
          replace p399 := eq_true p399
          replace q399 := eq_true q399
          have p401 : 0 ≤ (x6_2 : Int) := od
          have q401 : x6_2 < (l1.length : Int) := od
          obtain ⟨ad401, A401_1, c401_1, e401, hx401_0, hx401_1, hl401_1, hi401_1⟩ := at_T48 HR1.out x6_2 p401 q401
          have hw401_1 := hx401_1
          have hw401_0 := hx401_0
          obtain rfl : ad399 = ad401 := (by injection e401)
          replace hx401_0 := (HB.out.cell (World.block_lt_of_cell? w _ hx401_0)).trans hx401_0
          replace hx401_1 := (HB.out.cell (World.block_lt_of_cell? w _ hx401_1)).trans hx401_1
          have HR401_1 := Aside0.mk hi401_1
          have HC401_1 := Aside0.mk hl401_1
          clear hi401_1 hl401_1
          replace p401 := eq_true p401
          replace q401 := eq_true q401
          have ea_ := Option.some.inj (hx399_1.symm.trans hx401_1)
          injection ea_ with ea_ en_ ec_
          subst ea_
          subst ec_
          clear en_
          refine start_ (n := 17) (S := fun w' => w'.cell? ⟨gb397, 0, none⟩ = some (.int .i64 a0_0) ∧ w'.cell? ⟨gb397, 1, none⟩ = some (.slice A0_1 l0_1.length c0_1) ∧ w'.cell? (ad399.add ((x6_2).toNat * 2)) = some (.int .i64 ((rd_T48 l1 x6_2).f0)) ∧ w'.cell? ⟨(ad399.add ((x6_2).toNat * 2)).block, (ad399.add ((x6_2).toNat * 2)).off + 1, none⟩ = some (.slice A399_1 ((rd_T48 l1 x6_2).f1).length c399_1) ∧ w'.cell? (ad399.add ((x6_2).toNat * 2)) = some (.int .i64 ((rd_T48 l1 x6_2).f0)) ∧ w'.cell? ⟨(ad399.add ((x6_2).toNat * 2)).block, (ad399.add ((x6_2).toNat * 2)).off + 1, none⟩ = some (.slice A399_1 ((rd_T48 l1 x6_2).f1).length c399_1)) (ds := []) (mk 17 0) (by kernel_rfl) rfl (by kernel_rfl) ⟨(blk_cell BK397.out 0).trans rfl, (blk_cell BK397.out 1).trans rfl, ((HB.out.cell (World.block_lt_of_cell? w _ hw399_0)).trans hw399_0), ((HB.out.cell (World.block_lt_of_cell? w _ hw399_1)).trans hw399_1), ((HB.out.cell (World.block_lt_of_cell? w _ hw401_0)).trans hw401_0), ((HB.out.cell (World.block_lt_of_cell? w _ hw401_1)).trans hw401_1)⟩ (fun hHeld => ?_); refine with_tabW tollbarref4_Loads.tab6 tollbarref4_Loads.bits6 (fun HT_ HW_ => ?_)
          generalize wr.drew = w18 at BK397 HB HR399_1 HR401_1 hx399_0 hx399_1 hx401_0 hx401_1 hHeld ⊢
          refine pu 0 25 (mk 17 1) HT_ ?_
          refine pu 1 26 (mk 17 3) HT_ ?_
          refine pu 2 27 (mk 17 7) HT_ ?_
          refine pu 3 28 (mk 17 15) HT_ ?_
          refine ta 4 29 (mk 17 31) rfl rfl HT_ HW_ hHeld (Or.inl ⟨by rfl, by rintro w' ⟨s0, s1, s2, s3, s4, s5⟩; go_simp; with_reducible rfl⟩) ?_
          refine one_ (i := 5) (N := some 30) (mk 17 63) rfl rfl (one_of HT_.out (by kernel_rfl)) (by decide) (fun K hK => ?_)
          refine goes_ Try.func31 (by kernel_rfl) rfl #[.int .i64 ((rd_T48 l1 x6_2).f0)] (by rfl) rfl rfl (by (try simp only [List.map_toArray, List.map_cons, List.map_nil]); first | done | rfl | (simp only [List.length_drop, List.length_take]; rfl)) ?_
          with_reducible refine (tollbarref1_Rate.calls ((rd_T48 l1 x6_2).f0) true _ A14.out).mono ?_
          rintro e w' ⟨rfl, ⟨nd, rfl⟩⟩
          refine ⟨_, rfl, ?_⟩
          refine hK.out _ _ ⟨(blk_cell BK397.out 0).trans rfl, (blk_cell BK397.out 1).trans rfl, ((HB.out.cell (World.block_lt_of_cell? w _ hw399_0)).trans hw399_0), ((HB.out.cell (World.block_lt_of_cell? w _ hw399_1)).trans hw399_1), ((HB.out.cell (World.block_lt_of_cell? w _ hw401_0)).trans hw401_0), ((HB.out.cell (World.block_lt_of_cell? w _ hw401_1)).trans hw401_1)⟩ (fun hHeld => ?_)
          clear hK K
          refine nq 30 ?_
          refine pu 6 31 (mk 17 127) HT_ ?_
          refine pu 7 32 (mk 17 255) HT_ ?_
          refine pu 9 34 (mk 17 767) HT_ ?_
          refine pu 10 35 (mk 17 1791) HT_ ?_
          refine pu 11 36 (mk 17 3839) HT_ ?_
          refine pu 12 37 (mk 17 7935) HT_ ?_
          refine ta 8 33 (mk 17 8191) rfl rfl HT_ HW_ hHeld (Or.inl ⟨by rfl, by rintro w' ⟨s0, s1, s2, s3, s4, s5⟩; go_simp; with_reducible rfl⟩) ?_
          refine ta 13 38 (mk 17 16383) rfl rfl HT_ HW_ hHeld (Or.inl ⟨by rfl, by rintro w' ⟨s0, s1, s2, s3, s4, s5⟩; go_simp; with_reducible rfl⟩) ?_
          refine one_ (i := 14) (N := some 39) (mk 17 32767) rfl rfl (one_of HT_.out (by kernel_rfl)) (by decide) (fun K hK => ?_)
          refine goes_ Try.func32 (by kernel_rfl) rfl #[.agg #[.int .i64 a0_0, .slice A0_1 l0_1.length c0_1], .slice A399_1 ((rd_T48 l1 x6_2).f1).length c399_1] (by rfl) rfl rfl (by (try simp only [List.map_toArray, List.map_cons, List.map_nil]); first | done | rfl | (simp only [List.length_drop, List.length_take]; rfl)) ?_
          with_reducible refine (tollbarref4_links.calls k2 a0_0 _ _ l0_1 _ _ ((rd_T48 l1 x6_2).f1) true _ ?side1 ?side2 ?side3 ?side4 A16.out).mono ?_
          (case side1 => repeat (first | exact (Kd.C_below HR0_1.out (by repeat (first | (with_reducible first | exact HB.out | apply below_alloc | apply pw_below_drewN | apply below_drew1 | refine below_set ?_ GE397.out) | exact HB.out))) | (with_reducible refine Kd.C_alloc ?_ _) | (with_reducible refine Kd.C_drewN ?_ _) | (with_reducible refine Kd.C_drew ?_)))
          (case side2 => exact HC0_1.out)
          (case side3 => repeat (first | exact (Kd.C_below HR401_1.out (by repeat (first | (with_reducible first | exact HB.out | apply below_alloc | apply pw_below_drewN | apply below_drew1 | refine below_set ?_ GE397.out) | exact HB.out))) | (with_reducible refine Kd.C_alloc ?_ _) | (with_reducible refine Kd.C_drewN ?_ _) | (with_reducible refine Kd.C_drew ?_)))
          (case side4 => exact HC401_1.out)
          rintro e w19 ⟨rfl, hb⟩
          refine ⟨_, rfl, ?_⟩
          have n0_ := Aside0.mk (blk_below (g := gb397) (o := .cells #[.int .i64 a0_0, .slice A0_1 l0_1.length c0_1] 24 (0, 0)) (by (with_reducible repeat (first | refine blk_drewN ?_ _ | refine blk_drew ?_ | refine blk_alloc ?_ _)); exact BK397.out) hb)
          have n1_ := Aside0.mk (below_step (by repeat (first | (with_reducible first | exact HB.out | apply below_alloc | apply pw_below_drewN | apply below_drew1 | refine below_set ?_ GE397.out) | exact HB.out)) hb)
          clear BK397
          clear HB
          have BK397 := n0_
          have HB := n1_
          clear n0_ n1_
          (try clear hb)
          (try clear hb2)
          (try clear hk)
          (try clear hi)
          refine hK.out _ _ ⟨(blk_cell BK397.out 0).trans rfl, (blk_cell BK397.out 1).trans rfl, ((HB.out.cell (World.block_lt_of_cell? w _ hw399_0)).trans hw399_0), ((HB.out.cell (World.block_lt_of_cell? w _ hw399_1)).trans hw399_1), ((HB.out.cell (World.block_lt_of_cell? w _ hw401_0)).trans hw401_0), ((HB.out.cell (World.block_lt_of_cell? w _ hw401_1)).trans hw401_1)⟩ (fun hHeld => ?_)
          clear hK K
          refine nq 39 ?_
          refine pu 15 40 (mk 17 65535) HT_ ?_
          refine pu 16 41 (mk 17 131071) HT_ ?_
          refine done_ (done_of HT_.out (by kernel_rfl)) ?_
          try go_wp2
          go_roundg k2
          case measure => have := HJ2.out; have := HK2.out; omega
          case rel => exact ⟨(wrap64 (x6_2 + 1)), (by first | rfl | (simp; done) | (simp [*]; done)), H', ⟨by have := HJ2.out; have := HK2.out; omega⟩, ⟨by (with_reducible repeat (first | refine blk_drewN ?_ _ | refine blk_drew ?_ | refine blk_alloc ?_ _)); exact BK397.out⟩, ⟨by repeat (first | (with_reducible first | exact HB.out | apply below_alloc | apply pw_below_drewN | apply below_drew1 | refine below_set ?_ GE397.out) | exact HB.out)⟩⟩
         ·
          replace c17 := Bool.eq_false_iff.mpr c17
          subst c17
          have H1 : (some (([] : List Int), 700)) = some (r1, r2) := by rw [if_neg (show ¬ (false = true) by decide)] at H; exact H
          clear H
          have H := H1
          clear H1
          simp only [Option.some.injEq, Prod.mk.injEq] at H
          obtain ⟨rfl, rfl⟩ := H
          try go_wp2
          have n0_ := Aside0.mk (blk_drew BK397.out)
          have n1_ := Aside0.mk (below_drew1 HB.out)
          clear BK397
          clear HB
          have BK397 := n0_
          have HB := n1_
          clear n0_ n1_
          have p399 : 0 ≤ (x6_2 : Int) := od
          have q399 : x6_2 < (l1.length : Int) := od
          obtain ⟨ad399, A399_1, c399_1, e399, hx399_0, hx399_1, hl399_1, hi399_1⟩ := at_T48 HR1.out x6_2 p399 q399
          have hw399_1 := hx399_1
          have hw399_0 := hx399_0
          cases e399
          replace hx399_0 := (HB.out.cell (World.block_lt_of_cell? w _ hx399_0)).trans hx399_0
          replace hx399_1 := (HB.out.cell (World.block_lt_of_cell? w _ hx399_1)).trans hx399_1
          have HR399_1 := Aside0.mk hi399_1
          have HC399_1 := Aside0.mk hl399_1
          clear hi399_1 hl399_1
          replace p399 := eq_true p399
          replace q399 := eq_true q399
          have p401 : 0 ≤ (x6_2 : Int) := od
          have q401 : x6_2 < (l1.length : Int) := od
          obtain ⟨ad401, A401_1, c401_1, e401, hx401_0, hx401_1, hl401_1, hi401_1⟩ := at_T48 HR1.out x6_2 p401 q401
          have hw401_1 := hx401_1
          have hw401_0 := hx401_0
          obtain rfl : ad399 = ad401 := (by injection e401)
          replace hx401_0 := (HB.out.cell (World.block_lt_of_cell? w _ hx401_0)).trans hx401_0
          replace hx401_1 := (HB.out.cell (World.block_lt_of_cell? w _ hx401_1)).trans hx401_1
          have HR401_1 := Aside0.mk hi401_1
          have HC401_1 := Aside0.mk hl401_1
          clear hi401_1 hl401_1
          replace p401 := eq_true p401
          replace q401 := eq_true q401
          have ea_ := Option.some.inj (hx399_1.symm.trans hx401_1)
          injection ea_ with ea_ en_ ec_
          subst ea_
          subst ec_
          clear en_
          refine start_ (n := 17) (S := fun w' => w'.cell? ⟨gb397, 0, none⟩ = some (.int .i64 a0_0) ∧ w'.cell? ⟨gb397, 1, none⟩ = some (.slice A0_1 l0_1.length c0_1) ∧ w'.cell? (ad399.add ((x6_2).toNat * 2)) = some (.int .i64 ((rd_T48 l1 x6_2).f0)) ∧ w'.cell? ⟨(ad399.add ((x6_2).toNat * 2)).block, (ad399.add ((x6_2).toNat * 2)).off + 1, none⟩ = some (.slice A399_1 ((rd_T48 l1 x6_2).f1).length c399_1) ∧ w'.cell? (ad399.add ((x6_2).toNat * 2)) = some (.int .i64 ((rd_T48 l1 x6_2).f0)) ∧ w'.cell? ⟨(ad399.add ((x6_2).toNat * 2)).block, (ad399.add ((x6_2).toNat * 2)).off + 1, none⟩ = some (.slice A399_1 ((rd_T48 l1 x6_2).f1).length c399_1)) (ds := []) (mk 17 0) (by kernel_rfl) rfl (by kernel_rfl) ⟨(blk_cell BK397.out 0).trans rfl, (blk_cell BK397.out 1).trans rfl, ((HB.out.cell (World.block_lt_of_cell? w _ hw399_0)).trans hw399_0), ((HB.out.cell (World.block_lt_of_cell? w _ hw399_1)).trans hw399_1), ((HB.out.cell (World.block_lt_of_cell? w _ hw401_0)).trans hw401_0), ((HB.out.cell (World.block_lt_of_cell? w _ hw401_1)).trans hw401_1)⟩ (fun hHeld => ?_); refine with_tabW tollbarref4_Loads.tab6 tollbarref4_Loads.bits6 (fun HT_ HW_ => ?_)
          generalize wr.drew = w20 at BK397 HB HR399_1 HR401_1 hx399_0 hx399_1 hx401_0 hx401_1 hHeld ⊢
          refine pu 0 25 (mk 17 1) HT_ ?_
          refine pu 1 26 (mk 17 3) HT_ ?_
          refine pu 2 27 (mk 17 7) HT_ ?_
          refine pu 3 28 (mk 17 15) HT_ ?_
          refine ta 4 29 (mk 17 31) rfl rfl HT_ HW_ hHeld (Or.inl ⟨by rfl, by rintro w' ⟨s0, s1, s2, s3, s4, s5⟩; go_simp; with_reducible rfl⟩) ?_
          refine one_ (i := 5) (N := some 30) (mk 17 63) rfl rfl (one_of HT_.out (by kernel_rfl)) (by decide) (fun K hK => ?_)
          refine goes_ Try.func31 (by kernel_rfl) rfl #[.int .i64 ((rd_T48 l1 x6_2).f0)] (by rfl) rfl rfl (by (try simp only [List.map_toArray, List.map_cons, List.map_nil]); first | done | rfl | (simp only [List.length_drop, List.length_take]; rfl)) ?_
          with_reducible refine (tollbarref1_Rate.calls ((rd_T48 l1 x6_2).f0) true _ A14.out).mono ?_
          rintro e w' ⟨rfl, ⟨nd, rfl⟩⟩
          refine ⟨_, rfl, ?_⟩
          refine hK.out _ _ ⟨(blk_cell BK397.out 0).trans rfl, (blk_cell BK397.out 1).trans rfl, ((HB.out.cell (World.block_lt_of_cell? w _ hw399_0)).trans hw399_0), ((HB.out.cell (World.block_lt_of_cell? w _ hw399_1)).trans hw399_1), ((HB.out.cell (World.block_lt_of_cell? w _ hw401_0)).trans hw401_0), ((HB.out.cell (World.block_lt_of_cell? w _ hw401_1)).trans hw401_1)⟩ (fun hHeld => ?_)
          clear hK K
          refine nq 30 ?_
          refine pu 6 31 (mk 17 127) HT_ ?_
          refine pu 7 32 (mk 17 255) HT_ ?_
          refine pu 9 34 (mk 17 767) HT_ ?_
          refine pu 10 35 (mk 17 1791) HT_ ?_
          refine pu 11 36 (mk 17 3839) HT_ ?_
          refine pu 12 37 (mk 17 7935) HT_ ?_
          refine ta 8 33 (mk 17 8191) rfl rfl HT_ HW_ hHeld (Or.inl ⟨by rfl, by rintro w' ⟨s0, s1, s2, s3, s4, s5⟩; go_simp; with_reducible rfl⟩) ?_
          refine ta 13 38 (mk 17 16383) rfl rfl HT_ HW_ hHeld (Or.inl ⟨by rfl, by rintro w' ⟨s0, s1, s2, s3, s4, s5⟩; go_simp; with_reducible rfl⟩) ?_
          refine one_ (i := 14) (N := some 39) (mk 17 32767) rfl rfl (one_of HT_.out (by kernel_rfl)) (by decide) (fun K hK => ?_)
          refine goes_ Try.func32 (by kernel_rfl) rfl #[.agg #[.int .i64 a0_0, .slice A0_1 l0_1.length c0_1], .slice A399_1 ((rd_T48 l1 x6_2).f1).length c399_1] (by rfl) rfl rfl (by (try simp only [List.map_toArray, List.map_cons, List.map_nil]); first | done | rfl | (simp only [List.length_drop, List.length_take]; rfl)) ?_
          with_reducible refine (tollbarref4_links.calls k2 a0_0 _ _ l0_1 _ _ ((rd_T48 l1 x6_2).f1) false _ ?side1 ?side2 ?side3 ?side4 A16.out).mono ?_
          (case side1 => repeat (first | exact (Kd.C_below HR0_1.out (by repeat (first | (with_reducible first | exact HB.out | apply below_alloc | apply pw_below_drewN | apply below_drew1 | refine below_set ?_ GE397.out) | exact HB.out))) | (with_reducible refine Kd.C_alloc ?_ _) | (with_reducible refine Kd.C_drewN ?_ _) | (with_reducible refine Kd.C_drew ?_)))
          (case side2 => exact HC0_1.out)
          (case side3 => repeat (first | exact (Kd.C_below HR401_1.out (by repeat (first | (with_reducible first | exact HB.out | apply below_alloc | apply pw_below_drewN | apply below_drew1 | refine below_set ?_ GE397.out) | exact HB.out))) | (with_reducible refine Kd.C_alloc ?_ _) | (with_reducible refine Kd.C_drewN ?_ _) | (with_reducible refine Kd.C_drew ?_)))
          (case side4 => exact HC401_1.out)
          rintro e w21 ⟨rfl, hb⟩
          refine ⟨_, rfl, ?_⟩
          have n0_ := Aside0.mk (blk_below (g := gb397) (o := .cells #[.int .i64 a0_0, .slice A0_1 l0_1.length c0_1] 24 (0, 0)) (by (with_reducible repeat (first | refine blk_drewN ?_ _ | refine blk_drew ?_ | refine blk_alloc ?_ _)); exact BK397.out) hb)
          have n1_ := Aside0.mk (below_step (by repeat (first | (with_reducible first | exact HB.out | apply below_alloc | apply pw_below_drewN | apply below_drew1 | refine below_set ?_ GE397.out) | exact HB.out)) hb)
          clear BK397
          clear HB
          have BK397 := n0_
          have HB := n1_
          clear n0_ n1_
          (try clear hb)
          (try clear hb2)
          (try clear hk)
          (try clear hi)
          refine hK.out _ _ ⟨(blk_cell BK397.out 0).trans rfl, (blk_cell BK397.out 1).trans rfl, ((HB.out.cell (World.block_lt_of_cell? w _ hw399_0)).trans hw399_0), ((HB.out.cell (World.block_lt_of_cell? w _ hw399_1)).trans hw399_1), ((HB.out.cell (World.block_lt_of_cell? w _ hw401_0)).trans hw401_0), ((HB.out.cell (World.block_lt_of_cell? w _ hw401_1)).trans hw401_1)⟩ (fun hHeld => ?_)
          clear hK K
          refine nq 39 ?_
          refine pu 15 40 (mk 17 65535) HT_ ?_
          refine pu 16 41 (mk 17 131071) HT_ ?_
          refine done_ (done_of HT_.out (by kernel_rfl)) ?_
          try go_wp2
          go_ret2
          exact ⟨_, by first | rfl | (simp [errW_none, errW_some] <;> rfl) | (simp [*, errW_none, errW_some] <;> rfl), by first | exact Kd.R_nil _ _ _ _ _ | exact Kd.N_nil _ _ _ _ _ | exact Kd.V_nil _ _ _ _ _ | exact Kd.Q_nil _ _ _ _ _ | exact Kd.S_nil _ _ _ _ _, by repeat (first | (with_reducible first | exact HB.out | apply below_alloc | apply pw_below_drewN | apply below_drew1 | refine below_set ?_ GE397.out) | exact HB.out)⟩
        ·
         replace c15 := Bool.eq_false_iff.mpr c15
         subst c15
         have H1 : (some (([] : List Int), 700)) = some (r1, r2) := by rw [if_neg (show ¬ (false = true) by decide)] at H; exact H
         clear H
         have H := H1
         clear H1
         simp only [Option.some.injEq, Prod.mk.injEq] at H
         obtain ⟨rfl, rfl⟩ := H
         try go_wp2
         have n0_ := Aside0.mk (blk_drew BK397.out)
         have n1_ := Aside0.mk (below_drew1 HB.out)
         clear BK397
         clear HB
         have BK397 := n0_
         have HB := n1_
         clear n0_ n1_
         have p399 : 0 ≤ (x6_2 : Int) := od
         have q399 : x6_2 < (l1.length : Int) := od
         obtain ⟨ad399, A399_1, c399_1, e399, hx399_0, hx399_1, hl399_1, hi399_1⟩ := at_T48 HR1.out x6_2 p399 q399
         have hw399_1 := hx399_1
         have hw399_0 := hx399_0
         cases e399
         replace hx399_0 := (HB.out.cell (World.block_lt_of_cell? w _ hx399_0)).trans hx399_0
         replace hx399_1 := (HB.out.cell (World.block_lt_of_cell? w _ hx399_1)).trans hx399_1
         have HR399_1 := Aside0.mk hi399_1
         have HC399_1 := Aside0.mk hl399_1
         clear hi399_1 hl399_1
         replace p399 := eq_true p399
         replace q399 := eq_true q399
         refine start_ (n := 17) (S := fun w' => w'.cell? (ad399.add ((x6_2).toNat * 2)) = some (.int .i64 ((rd_T48 l1 x6_2).f0)) ∧ w'.cell? ⟨(ad399.add ((x6_2).toNat * 2)).block, (ad399.add ((x6_2).toNat * 2)).off + 1, none⟩ = some (.slice A399_1 ((rd_T48 l1 x6_2).f1).length c399_1)) (ds := []) (mk 17 0) (by kernel_rfl) rfl (by kernel_rfl) ⟨((HB.out.cell (World.block_lt_of_cell? w _ hw399_0)).trans hw399_0), ((HB.out.cell (World.block_lt_of_cell? w _ hw399_1)).trans hw399_1)⟩ (fun hHeld => ?_); refine with_tabW tollbarref4_Loads.tab6 tollbarref4_Loads.bits6 (fun HT_ HW_ => ?_)
         generalize wr.drew = w22 at BK397 HB HR399_1 hx399_0 hx399_1 hHeld ⊢
         refine pu 0 25 (mk 17 1) HT_ ?_
         refine pu 1 26 (mk 17 3) HT_ ?_
         refine pu 2 27 (mk 17 7) HT_ ?_
         refine pu 3 28 (mk 17 15) HT_ ?_
         refine ta 4 29 (mk 17 31) rfl rfl HT_ HW_ hHeld (Or.inl ⟨by rfl, by rintro w' ⟨s0, s1⟩; go_simp; with_reducible rfl⟩) ?_
         refine one_ (i := 5) (N := some 30) (mk 17 63) rfl rfl (one_of HT_.out (by kernel_rfl)) (by decide) (fun K hK => ?_)
         refine goes_ Try.func31 (by kernel_rfl) rfl #[.int .i64 ((rd_T48 l1 x6_2).f0)] (by rfl) rfl rfl (by (try simp only [List.map_toArray, List.map_cons, List.map_nil]); first | done | rfl | (simp only [List.length_drop, List.length_take]; rfl)) ?_
         with_reducible refine (tollbarref1_Rate.calls ((rd_T48 l1 x6_2).f0) false _ A14.out).mono ?_
         rintro e w' ⟨rfl, ⟨nd, rfl⟩⟩
         refine ⟨_, rfl, ?_⟩
         refine hK.out _ _ ⟨((HB.out.cell (World.block_lt_of_cell? w _ hw399_0)).trans hw399_0), ((HB.out.cell (World.block_lt_of_cell? w _ hw399_1)).trans hw399_1)⟩ (fun hHeld => ?_)
         clear hK K
         refine nq 30 ?_
         refine pu 6 31 (mk 17 127) HT_ ?_
         refine pu 7 32 (mk 17 255) HT_ ?_
         refine po 8 33 (mk 17 511) HT_ ?_
         refine po 9 34 (mk 17 1023) HT_ ?_
         refine po 10 35 (mk 17 2047) HT_ ?_
         refine po 11 36 (mk 17 4095) HT_ ?_
         refine po 12 37 (mk 17 8191) HT_ ?_
         refine po 13 38 (mk 17 16383) HT_ ?_
         refine po 14 39 (mk 17 32767) HT_ ?_
         refine po 15 40 (mk 17 65535) HT_ ?_
         refine pu 16 41 (mk 17 131071) HT_ ?_
         refine done_ (done_of HT_.out (by kernel_rfl)) ?_
         try go_wp2
         go_ret2
         exact ⟨_, by first | rfl | (simp [errW_none, errW_some] <;> rfl) | (simp [*, errW_none, errW_some] <;> rfl), by first | exact Kd.R_nil _ _ _ _ _ | exact Kd.N_nil _ _ _ _ _ | exact Kd.V_nil _ _ _ _ _ | exact Kd.Q_nil _ _ _ _ _ | exact Kd.S_nil _ _ _ _ _, by repeat (first | (with_reducible first | exact HB.out | apply below_alloc | apply pw_below_drewN | apply below_drew1 | refine below_set ?_ GE397.out) | exact HB.out)⟩
       ·
        rw [if_neg c13] at H
        exact absurd H (by simp)
      ·
       rw [if_neg c12] at H
       have c12b0 : decide (x6_2 < (l1.length : Int)) = false := decide_eq_false c12
       clear c12
       by_cases c23 : 0 ≤ (l0_1.length : Int)
       ·
        rw [if_pos c23] at H
        have c23b0 := eq_true c23
        have c23b1 : decide (0 ≤ (l0_1.length : Int)) = true := decide_eq_true c23
        clear c23
        by_cases c24 : ((l0_1.length : Int) : Int).toNat ≤ 35184372088832
        ·
         rw [if_pos c24] at H
         have c24b0 := eq_true c24
         have c24b1 : decide (((l0_1.length : Int) : Int).toNat ≤ 35184372088832) = true := decide_eq_true c24
         clear c24
         obtain ⟨y403, hy403⟩ : ∃ y_ : List Int, y_ = (List.replicate ((l0_1.length : Int) : Int).toNat 0) := ⟨_, rfl⟩
         replace H : (tollbarref4_Loads.l1 k2 l1 y403 0) = some (r1, r2) := by first | (rw [hy403]; with_reducible exact H) | (have H2_ := (Option.bind_some _ _).symm.trans H; rw [hy403]; with_reducible exact H2_) | (have H2_ := (Option.bind_some _ _).symm.trans H; with_reducible exact H2_) | with_reducible exact H | (rw [hy403]; exact H) | exact H
         have Ny403 := Aside0.mk hy403
         clear hy403
         have H' := Aside0.mk H
         clear H
         have hcz25_0 := blk_at BK397.out 0
         have hcz25_1 := blk_at BK397.out 1
         have hfz25_0 := blk_frozen BK397.out 0
         have hfz25_1 := blk_frozen BK397.out 1
         go_wp2_with (first | ((with_reducible refine gate_dst (N := 45) rfl ?_); (try (refine gate_guard (by rfl) ?_; dsimp only)); refine Kd.R_make (Kd.int .i64) _ 3 rfl (N := 45) rfl 25 _ _ rfl (l0_1.length : Int) rfl rfl Try.underlying25 (.int .i64 0) 8 info3 rfl (by decide) (by omega) 0 (ok := fun _ => True) (okp := fun _ => True) rfl (fun _ hk => hk) trivial (od) (Nat.le_trans (Nat.mul_le_mul_right _ (od : (l0_1.length : Int).toNat ≤ 35184372088832)) (by omega)) (Below.refl _ _) (Nat.le_refl _) ?_; intro v404 w26 ho27 hb hg_ hnew_; clear hg_ hnew_; (first | rw [← Ny403.out] at ho27 | (simp only [Int.reduceToNat] at ho27; rw [← Ny403.out] at ho27)); have n0_ := Aside0.mk (Kd.R_lower ho27 (below_size (by repeat (first | (with_reducible first | exact HB.out | apply below_alloc | apply pw_below_drewN | apply below_drew1 | refine below_set ?_ GE397.out) | exact HB.out)))); have n1_ := Aside0.mk (blk_below (g := gb397) (o := .cells #[.int .i64 a0_0, .slice A0_1 l0_1.length c0_1] 24 (0, 0)) (by (with_reducible repeat (first | refine blk_drewN ?_ _ | refine blk_drew ?_ | refine blk_alloc ?_ _)); exact BK397.out) hb); have n2_ := Aside0.mk (below_step (by repeat (first | (with_reducible first | exact HB.out | apply below_alloc | apply pw_below_drewN | apply below_drew1 | refine below_set ?_ GE397.out) | exact HB.out)) hb); clear BK397; clear HB; have HO405 := n0_; have BK397 := n1_; have HB := n2_; clear n0_ n1_ n2_; clear hb ho27))
         go_loopg [8] k2 (fun kq v8 w' => ∃ (x7_3 : List Int) (x8_3 : Int), v8 = .int .i64 x8_3 ∧ Aside0 (tollbarref4_Loads.l1 kq l1 x7_3 x8_3 = some (r1, r2)) ∧ Aside0 (kq ≤ k2) ∧ Aside0 (Kd.R (Kd.int .i64) 3 w' w.heap.size (fun _ => True) v404 x7_3) ∧ Aside0 (w'.heap[gb397]? = some (.cells #[.int .i64 a0_0, (.slice A0_1 l0_1.length c0_1)] 24 (0, 0))) ∧ Aside0 (Below w.heap.size w w'))
         case atStart => exact ⟨(y403), (0), (by first | rfl | (simp; done) | (simp [*]; done)), H', ⟨Nat.le_refl _⟩, ⟨by (with_reducible repeat (first | apply Kd.R_alloc | apply Kd.R_drewN | apply Kd.R_drew)); exact HO405.out⟩, ⟨by (with_reducible repeat (first | refine blk_drewN ?_ _ | refine blk_drew ?_ | refine blk_alloc ?_ _)); exact BK397.out⟩, ⟨by repeat (first | (with_reducible first | exact HB.out | apply below_alloc | apply pw_below_drewN | apply below_drew1 | refine below_set ?_ GE397.out) | exact HB.out)⟩⟩
         case round =>
          clear H'
          try clear c1
          try clear c2
          try clear p2
          try clear c3
          try clear p3
          try clear q3
          try clear hx3
          try clear c4
          try clear p4
          try clear q4
          try clear hx4
          try clear p6
          try clear c12
          try clear c12b0
          try clear c13
          try clear c15
          try clear c17
          try clear c23
          try clear c23b0
          try clear c23b1
          try clear c24
          try clear c24b0
          try clear c24b1
          try clear hcz25_0
          try clear hcz25_1
          try clear hfz25_0
          try clear hfz25_1
          try clear hx399_0
          try clear hx399_1
          try clear hx401_0
          try clear hx401_1
          try clear p399
          try clear p401
          try clear q399
          try clear q401
          obtain ⟨x7_3, x8_3, rfl, HA, HK3, HO_7, BK397, HB⟩ := hrel
          cases gk with
          | zero => exact absurd HA.out (by simp [tollbarref4_Loads.l1])
          | succ k3 =>
           have H := HA.out
           clear HA
           simp only [tollbarref4_Loads.l1] at H
           by_cases c28 : x8_3 < (l1.length : Int)
           ·
            rw [if_pos c28] at H
            have c28b0 : decide (x8_3 < (l1.length : Int)) = true := decide_eq_true c28
            clear c28
            have H' := Aside0.mk H
            clear H
            go_wp2
            go_loopg [9] k3 (fun kq v9 w' => ∃ (x7_4 : List Int) (x9_4 : Int), v9 = .int .i64 x9_4 ∧ Aside0 (tollbarref4_Loads.l2 kq l1 x7_4 x8_3 x9_4 = some (r1, r2)) ∧ Aside0 (kq ≤ k3) ∧ Aside0 (Kd.R (Kd.int .i64) 3 w' w.heap.size (fun _ => True) v404 x7_4) ∧ Aside0 (w'.heap[gb397]? = some (.cells #[.int .i64 a0_0, (.slice A0_1 l0_1.length c0_1)] 24 (0, 0))) ∧ Aside0 (Below w.heap.size w w'))
            case atStart => exact ⟨(x7_3), (0), (by first | rfl | (simp; done) | (simp [*]; done)), H', ⟨Nat.le_refl _⟩, ⟨by (with_reducible repeat (first | apply Kd.R_alloc | apply Kd.R_drewN | apply Kd.R_drew)); exact HO_7.out⟩, ⟨by (with_reducible repeat (first | refine blk_drewN ?_ _ | refine blk_drew ?_ | refine blk_alloc ?_ _)); exact BK397.out⟩, ⟨by repeat (first | (with_reducible first | exact HB.out | apply below_alloc | apply pw_below_drewN | apply below_drew1 | refine below_set ?_ GE397.out) | exact HB.out)⟩⟩
            case round =>
             clear H'
             try clear c1
             try clear c2
             try clear p2
             try clear c3
             try clear p3
             try clear q3
             try clear hx3
             try clear c4
             try clear p4
             try clear q4
             try clear hx4
             try clear p6
             try clear c12
             try clear c12b0
             try clear c13
             try clear c15
             try clear c17
             try clear c23
             try clear c23b0
             try clear c23b1
             try clear c24
             try clear c24b0
             try clear c24b1
             try clear c28
             try clear c28b0
             try clear hcz25_0
             try clear hcz25_1
             try clear hfz25_0
             try clear hfz25_1
             try clear hx399_0
             try clear hx399_1
             try clear hx401_0
             try clear hx401_1
             try clear p2
             try clear p3
             try clear p399
             try clear p4
             try clear p401
             try clear p6
             try clear q3
             try clear q399
             try clear q4
             try clear q401
             obtain ⟨x7_4, x9_4, rfl, HA, HK4, HO_7, BK397, HB⟩ := hrel
             cases gk with
             | zero => exact absurd HA.out (by simp [tollbarref4_Loads.l2])
             | succ k4 =>
              have H := HA.out
              clear HA
              simp only [tollbarref4_Loads.l2] at H
              by_cases c29 : 0 ≤ x8_3
              ·
               rw [if_pos c29] at H
               have c29b0 : decide (0 ≤ x8_3) = true := decide_eq_true c29
               clear c29
               by_cases c30 : x8_3 < (l1.length : Int)
               ·
                rw [if_pos c30] at H
                have c30b0 : decide (x8_3 < (l1.length : Int)) = true := decide_eq_true c30
                clear c30
                by_cases c31 : x9_4 < (((rd_T48 l1 x8_3).f1).length : Int)
                ·
                 rw [if_pos c31] at H
                 have c31b0 : decide (x9_4 < (((rd_T48 l1 x8_3).f1).length : Int)) = true := decide_eq_true c31
                 clear c31
                 by_cases c32 : 0 ≤ x9_4
                 ·
                  rw [if_pos c32] at H
                  have c32b0 : decide (0 ≤ x9_4) = true := decide_eq_true c32
                  clear c32
                  by_cases c33 : 0 ≤ (rd ((rd_T48 l1 x8_3).f1) x9_4)
                  ·
                   rw [if_pos c33] at H
                   have c33b0 : decide (0 ≤ (rd ((rd_T48 l1 x8_3).f1) x9_4)) = true := decide_eq_true c33
                   clear c33
                   by_cases c34 : (rd ((rd_T48 l1 x8_3).f1) x9_4) < (x7_4.length : Int)
                   ·
                    rw [if_pos c34] at H
                    have c34b0 : decide ((rd ((rd_T48 l1 x8_3).f1) x9_4) < (x7_4.length : Int)) = true := decide_eq_true c34
                    clear c34
                    by_cases c35 : ((rd_T48 l1 x8_3).f0) > (wrap64 (4611686018427387904 - (rd x7_4 (rd ((rd_T48 l1 x8_3).f1) x9_4))))
                    ·
                     rw [if_pos c35] at H
                     have c35b0 : decide ((wrap64 (4611686018427387904 - (rd x7_4 (rd ((rd_T48 l1 x8_3).f1) x9_4)))) < ((rd_T48 l1 x8_3).f0)) = true := decide_eq_true c35
                     clear c35
                     simp only [Option.some.injEq, Prod.mk.injEq] at H
                     obtain ⟨rfl, rfl⟩ := H
                     have p406 : 0 ≤ (x8_3 : Int) := od
                     have q406 : x8_3 < (l1.length : Int) := od
                     obtain ⟨ad406, A406_1, c406_1, e406, hx406_0, hx406_1, hl406_1, hi406_1⟩ := at_T48 HR1.out x8_3 p406 q406
                     cases e406
                     replace hx406_0 := (HB.out.cell (World.block_lt_of_cell? w _ hx406_0)).trans hx406_0
                     replace hx406_1 := (HB.out.cell (World.block_lt_of_cell? w _ hx406_1)).trans hx406_1
                     have HR406_1 := Aside0.mk hi406_1
                     have HC406_1 := Aside0.mk hl406_1
                     clear hi406_1 hl406_1
                     replace p406 := eq_true p406
                     replace q406 := eq_true q406
                     have p407 : 0 ≤ (x8_3 : Int) := od
                     have q407 : x8_3 < (l1.length : Int) := od
                     obtain ⟨ad407, A407_1, c407_1, e407, hx407_0, hx407_1, hl407_1, hi407_1⟩ := at_T48 HR1.out x8_3 p407 q407
                     obtain rfl : ad406 = ad407 := (by injection e407)
                     replace hx407_0 := (HB.out.cell (World.block_lt_of_cell? w _ hx407_0)).trans hx407_0
                     replace hx407_1 := (HB.out.cell (World.block_lt_of_cell? w _ hx407_1)).trans hx407_1
                     have HR407_1 := Aside0.mk hi407_1
                     have HC407_1 := Aside0.mk hl407_1
                     clear hi407_1 hl407_1
                     replace p407 := eq_true p407
                     replace q407 := eq_true q407
                     have ea_ := Option.some.inj (hx406_1.symm.trans hx407_1)
                     injection ea_ with ea_ en_ ec_
                     subst ea_
                     subst ec_
                     clear en_
                     have p408 : 0 ≤ (x9_4 : Int) := od
                     have q408 : x9_4 < (((rd_T48 l1 x8_3).f1).length : Int) := od
                     obtain ⟨ad408, e408, hx408_0⟩ := Kd.at_int HR407_1.out x9_4 p408 q408
                     cases e408
                     replace hx408_0 := (HB.out.cell (World.block_lt_of_cell? w _ hx408_0)).trans hx408_0
                     replace p408 := eq_true p408
                     replace q408 := eq_true q408
                     try go_wp2
                     have n0_ := Aside0.mk (Kd.R_drew HO_7.out)
                     have n1_ := Aside0.mk (blk_drew BK397.out)
                     have n2_ := Aside0.mk (below_drew1 HB.out)
                     clear HO_7
                     clear BK397
                     clear HB
                     have HO_7 := n0_
                     have BK397 := n1_
                     have HB := n2_
                     clear n0_ n1_ n2_
                     have p409 : 0 ≤ (x8_3 : Int) := od
                     have q409 : x8_3 < (l1.length : Int) := od
                     obtain ⟨ad409, A409_1, c409_1, e409, hx409_0, hx409_1, hl409_1, hi409_1⟩ := at_T48 HR1.out x8_3 p409 q409
                     have hw409_1 := hx409_1
                     have hw409_0 := hx409_0
                     obtain rfl : ad406 = ad409 := (by injection e409)
                     replace hx409_0 := (HB.out.cell (World.block_lt_of_cell? w _ hx409_0)).trans hx409_0
                     replace hx409_1 := (HB.out.cell (World.block_lt_of_cell? w _ hx409_1)).trans hx409_1
                     have HR409_1 := Aside0.mk hi409_1
                     have HC409_1 := Aside0.mk hl409_1
                     clear hi409_1 hl409_1
                     replace p409 := eq_true p409
                     replace q409 := eq_true q409
                     obtain ⟨Ao37, co37, eo37⟩ := Kd.R_slice HO_7.out
                     (first | subst eo37 | (injection eo37 with f1_ f2_ f3_; have f4_ := f1_.symm; have f5_ := f3_.symm; clear f1_ f2_ f3_; subst f4_; subst f5_))
                     have p410 : 0 ≤ ((rd ((rd_T48 l1 x8_3).f1) x9_4) : Int) := od
                     have q410 : (rd ((rd_T48 l1 x8_3).f1) x9_4) < (x7_4.length : Int) := od
                     obtain ⟨ad410, e410, hx410_0⟩ := Kd.at_int (Kd.R_reads' HO_7.out).2.2 (rd ((rd_T48 l1 x8_3).f1) x9_4) p410 q410
                     cases e410
                     replace p410 := eq_true p410
                     replace q410 := eq_true q410
                     refine start_ (n := 11) (S := fun w' => w'.cell? (ad406.add ((x8_3).toNat * 2)) = some (.int .i64 ((rd_T48 l1 x8_3).f0)) ∧ w'.cell? ⟨(ad406.add ((x8_3).toNat * 2)).block, (ad406.add ((x8_3).toNat * 2)).off + 1, none⟩ = some (.slice A409_1 ((rd_T48 l1 x8_3).f1).length c409_1) ∧ w'.cell? (ad410.add ((rd ((rd_T48 l1 x8_3).f1) x9_4)).toNat) = some (.int .i64 (rd x7_4 (rd ((rd_T48 l1 x8_3).f1) x9_4)))) (ds := []) (mk 11 0) (by kernel_rfl) rfl (by kernel_rfl) ⟨((HB.out.cell (World.block_lt_of_cell? w _ hw409_0)).trans hw409_0), ((HB.out.cell (World.block_lt_of_cell? w _ hw409_1)).trans hw409_1), hx410_0⟩ (fun hHeld => ?_); refine with_tabW tollbarref4_Loads.tab16 tollbarref4_Loads.bits16 (fun HT_ HW_ => ?_)
                     generalize wr.drew = w36 at HO_7 BK397 HB HR409_1 hx409_0 hx409_1 hx410_0 hHeld ⊢
                     refine pu 0 70 (mk 11 1) HT_ ?_
                     refine pu 1 71 (mk 11 3) HT_ ?_
                     refine pu 2 72 (mk 11 7) HT_ ?_
                     refine pu 3 73 (mk 11 15) HT_ ?_
                     refine pu 5 75 (mk 11 47) HT_ ?_
                     refine pu 6 76 (mk 11 111) HT_ ?_
                     refine pu 7 77 (mk 11 239) HT_ ?_
                     refine ta 4 74 (mk 11 255) rfl rfl HT_ HW_ hHeld (Or.inl ⟨by rfl, by rintro w' ⟨s0, s1, s2⟩; go_simp; with_reducible rfl⟩) ?_
                     refine ta 8 78 (mk 11 511) rfl rfl HT_ HW_ hHeld (Or.inl ⟨by rfl, by rintro w' ⟨s0, s1, s2⟩; go_simp; with_reducible rfl⟩) ?_
                     refine pu 9 79 (mk 11 1023) HT_ ?_
                     refine pu 10 80 (mk 11 2047) HT_ ?_
                     refine done_ (done_of HT_.out (by kernel_rfl)) ?_
                     try go_wp2
                     go_ret2
                     exact ⟨_, by first | rfl | (simp [errW_none, errW_some] <;> rfl) | (simp [*, errW_none, errW_some] <;> rfl), by first | exact Kd.R_nil _ _ _ _ _ | exact Kd.N_nil _ _ _ _ _ | exact Kd.V_nil _ _ _ _ _ | exact Kd.Q_nil _ _ _ _ _ | exact Kd.S_nil _ _ _ _ _, by repeat (first | (with_reducible first | exact HB.out | apply below_alloc | apply pw_below_drewN | apply below_drew1 | refine below_set ?_ GE397.out) | exact HB.out)⟩
                    ·
                     rw [if_neg c35] at H
                     have c35b0 : decide ((wrap64 (4611686018427387904 - (rd x7_4 (rd ((rd_T48 l1 x8_3).f1) x9_4)))) < ((rd_T48 l1 x8_3).f0)) = false := decide_eq_false c35
                     clear c35
                     obtain ⟨y413, hy413⟩ : ∃ y_ : List Int, y_ = (x7_4.set ((rd ((rd_T48 l1 x8_3).f1) x9_4) : Int).toNat (wrap64 ((rd x7_4 (rd ((rd_T48 l1 x8_3).f1) x9_4)) + ((rd_T48 l1 x8_3).f0)))) := ⟨_, rfl⟩
                     replace H : (tollbarref4_Loads.l2 k4 l1 y413 x8_3 (wrap64 (x9_4 + 1))) = some (r1, r2) := by first | (rw [hy413]; with_reducible exact H) | (have H2_ := (Option.bind_some _ _).symm.trans H; rw [hy413]; with_reducible exact H2_) | (have H2_ := (Option.bind_some _ _).symm.trans H; with_reducible exact H2_) | with_reducible exact H | (rw [hy413]; exact H) | exact H
                     have Ny413 := Aside0.mk hy413
                     clear hy413
                     have H' := Aside0.mk H
                     clear H
                     have p406 : 0 ≤ (x8_3 : Int) := od
                     have q406 : x8_3 < (l1.length : Int) := od
                     obtain ⟨ad406, A406_1, c406_1, e406, hx406_0, hx406_1, hl406_1, hi406_1⟩ := at_T48 HR1.out x8_3 p406 q406
                     cases e406
                     replace hx406_0 := (HB.out.cell (World.block_lt_of_cell? w _ hx406_0)).trans hx406_0
                     replace hx406_1 := (HB.out.cell (World.block_lt_of_cell? w _ hx406_1)).trans hx406_1
                     have HR406_1 := Aside0.mk hi406_1
                     have HC406_1 := Aside0.mk hl406_1
                     clear hi406_1 hl406_1
                     replace p406 := eq_true p406
                     replace q406 := eq_true q406
                     have p407 : 0 ≤ (x8_3 : Int) := od
                     have q407 : x8_3 < (l1.length : Int) := od
                     obtain ⟨ad407, A407_1, c407_1, e407, hx407_0, hx407_1, hl407_1, hi407_1⟩ := at_T48 HR1.out x8_3 p407 q407
                     obtain rfl : ad406 = ad407 := (by injection e407)
                     replace hx407_0 := (HB.out.cell (World.block_lt_of_cell? w _ hx407_0)).trans hx407_0
                     replace hx407_1 := (HB.out.cell (World.block_lt_of_cell? w _ hx407_1)).trans hx407_1
                     have HR407_1 := Aside0.mk hi407_1
                     have HC407_1 := Aside0.mk hl407_1
                     clear hi407_1 hl407_1
                     replace p407 := eq_true p407
                     replace q407 := eq_true q407
                     have ea_ := Option.some.inj (hx406_1.symm.trans hx407_1)
                     injection ea_ with ea_ en_ ec_
                     subst ea_
                     subst ec_
                     clear en_
                     have p408 : 0 ≤ (x9_4 : Int) := od
                     have q408 : x9_4 < (((rd_T48 l1 x8_3).f1).length : Int) := od
                     obtain ⟨ad408, e408, hx408_0⟩ := Kd.at_int HR407_1.out x9_4 p408 q408
                     cases e408
                     replace hx408_0 := (HB.out.cell (World.block_lt_of_cell? w _ hx408_0)).trans hx408_0
                     replace p408 := eq_true p408
                     replace q408 := eq_true q408
                     try go_wp2
                     have n0_ := Aside0.mk (Kd.R_drew HO_7.out)
                     have n1_ := Aside0.mk (blk_drew BK397.out)
                     have n2_ := Aside0.mk (below_drew1 HB.out)
                     clear HO_7
                     clear BK397
                     clear HB
                     have HO_7 := n0_
                     have BK397 := n1_
                     have HB := n2_
                     clear n0_ n1_ n2_
                     have p409 : 0 ≤ (x8_3 : Int) := od
                     have q409 : x8_3 < (l1.length : Int) := od
                     obtain ⟨ad409, A409_1, c409_1, e409, hx409_0, hx409_1, hl409_1, hi409_1⟩ := at_T48 HR1.out x8_3 p409 q409
                     have hw409_1 := hx409_1
                     have hw409_0 := hx409_0
                     obtain rfl : ad406 = ad409 := (by injection e409)
                     replace hx409_0 := (HB.out.cell (World.block_lt_of_cell? w _ hx409_0)).trans hx409_0
                     replace hx409_1 := (HB.out.cell (World.block_lt_of_cell? w _ hx409_1)).trans hx409_1
                     have HR409_1 := Aside0.mk hi409_1
                     have HC409_1 := Aside0.mk hl409_1
                     clear hi409_1 hl409_1
                     replace p409 := eq_true p409
                     replace q409 := eq_true q409
                     obtain ⟨Ao40, co40, eo40⟩ := Kd.R_slice HO_7.out
                     (first | subst eo40 | (injection eo40 with f1_ f2_ f3_; have f4_ := f1_.symm; have f5_ := f3_.symm; clear f1_ f2_ f3_; subst f4_; subst f5_))
                     have p410 : 0 ≤ ((rd ((rd_T48 l1 x8_3).f1) x9_4) : Int) := od
                     have q410 : (rd ((rd_T48 l1 x8_3).f1) x9_4) < (x7_4.length : Int) := od
                     obtain ⟨ad410, e410, hx410_0⟩ := Kd.at_int (Kd.R_reads' HO_7.out).2.2 (rd ((rd_T48 l1 x8_3).f1) x9_4) p410 q410
                     cases e410
                     replace p410 := eq_true p410
                     replace q410 := eq_true q410
                     refine start_ (n := 11) (S := fun w' => w'.cell? (ad406.add ((x8_3).toNat * 2)) = some (.int .i64 ((rd_T48 l1 x8_3).f0)) ∧ w'.cell? ⟨(ad406.add ((x8_3).toNat * 2)).block, (ad406.add ((x8_3).toNat * 2)).off + 1, none⟩ = some (.slice A409_1 ((rd_T48 l1 x8_3).f1).length c409_1) ∧ w'.cell? (ad410.add ((rd ((rd_T48 l1 x8_3).f1) x9_4)).toNat) = some (.int .i64 (rd x7_4 (rd ((rd_T48 l1 x8_3).f1) x9_4)))) (ds := []) (mk 11 0) (by kernel_rfl) rfl (by kernel_rfl) ⟨((HB.out.cell (World.block_lt_of_cell? w _ hw409_0)).trans hw409_0), ((HB.out.cell (World.block_lt_of_cell? w _ hw409_1)).trans hw409_1), hx410_0⟩ (fun hHeld => ?_); refine with_tabW tollbarref4_Loads.tab16 tollbarref4_Loads.bits16 (fun HT_ HW_ => ?_)
                     generalize wr.drew = w39 at HO_7 BK397 HB HR409_1 hx409_0 hx409_1 hx410_0 hHeld ⊢
                     refine pu 0 70 (mk 11 1) HT_ ?_
                     refine pu 1 71 (mk 11 3) HT_ ?_
                     refine pu 2 72 (mk 11 7) HT_ ?_
                     refine pu 3 73 (mk 11 15) HT_ ?_
                     refine pu 5 75 (mk 11 47) HT_ ?_
                     refine pu 6 76 (mk 11 111) HT_ ?_
                     refine pu 7 77 (mk 11 239) HT_ ?_
                     refine ta 4 74 (mk 11 255) rfl rfl HT_ HW_ hHeld (Or.inl ⟨by rfl, by rintro w' ⟨s0, s1, s2⟩; go_simp; with_reducible rfl⟩) ?_
                     refine ta 8 78 (mk 11 511) rfl rfl HT_ HW_ hHeld (Or.inl ⟨by rfl, by rintro w' ⟨s0, s1, s2⟩; go_simp; with_reducible rfl⟩) ?_
                     refine pu 9 79 (mk 11 1023) HT_ ?_
                     refine pu 10 80 (mk 11 2047) HT_ ?_
                     refine done_ (done_of HT_.out (by kernel_rfl)) ?_
                     try go_wp2
                     have n0_ := Aside0.mk (Kd.R_drew HO_7.out)
                     have n1_ := Aside0.mk (blk_drew BK397.out)
                     have n2_ := Aside0.mk (below_drew1 HB.out)
                     clear HO_7
                     clear BK397
                     clear HB
                     have HO_7 := n0_
                     have BK397 := n1_
                     have HB := n2_
                     clear n0_ n1_ n2_
                     have p411 : 0 ≤ ((rd ((rd_T48 l1 x8_3).f1) x9_4) : Int) := od
                     have q411 : (rd ((rd_T48 l1 x8_3).f1) x9_4) < (x7_4.length : Int) := od
                     obtain ⟨ad411, e411, hx411_0⟩ := Kd.at_int (Kd.R_reads' HO_7.out).2.2 (rd ((rd_T48 l1 x8_3).f1) x9_4) p411 q411
                     obtain rfl : ad410 = ad411 := (by injection e411)
                     replace p411 := eq_true p411
                     replace q411 := eq_true q411
                     have p412 : 0 ≤ (x8_3 : Int) := od
                     have q412 : x8_3 < (l1.length : Int) := od
                     obtain ⟨ad412, A412_1, c412_1, e412, hx412_0, hx412_1, hl412_1, hi412_1⟩ := at_T48 HR1.out x8_3 p412 q412
                     have hw412_1 := hx412_1
                     have hw412_0 := hx412_0
                     obtain rfl : ad406 = ad412 := (by injection e412)
                     replace hx412_0 := (HB.out.cell (World.block_lt_of_cell? w _ hx412_0)).trans hx412_0
                     replace hx412_1 := (HB.out.cell (World.block_lt_of_cell? w _ hx412_1)).trans hx412_1
                     have HR412_1 := Aside0.mk hi412_1
                     have HC412_1 := Aside0.mk hl412_1
                     clear hi412_1 hl412_1
                     replace p412 := eq_true p412
                     replace q412 := eq_true q412
                     have p38 : 0 ≤ ((rd ((rd_T48 l1 x8_3).f1) x9_4) : Int) := od
                     have q38 : ((rd ((rd_T48 l1 x8_3).f1) x9_4) : Int) < ((x7_4.length : Int) : Int) := od
                     obtain ⟨go38, co38, eo38, gb38, gl38, cl38, HG38⟩ := Kd.R_form HO_7.out (by omega)
                     (first | cases eo38 | (injection eo38 with ea_ en_ ec_; (first | subst ea_ | (injection ea_ with ea_; subst ea_)); subst ec_; clear en_))
                     have GB38 := Aside0.mk gb38
                     have GG38 := Aside0.mk HG38
                     clear gb38 gl38 HG38
                     (first | simp only [add_plain] at hx410_0 | skip)
                     (first | simp only [add_plain] at hx411_0 | skip)
                     obtain ⟨hx38_0, hf38_0⟩ := Kd.R_celln 0 HO_7.out ((rd ((rd_T48 l1 x8_3).f1) x9_4) : Int) p38 q38
                     replace p38 := eq_true p38
                     replace q38 := eq_true q38
                     have HP42 := Kd.R_putn HO_7.out ((rd ((rd_T48 l1 x8_3).f1) x9_4) : Int) (wrap64 ((rd x7_4 (rd ((rd_T48 l1 x8_3).f1) x9_4)) + ((rd_T48 l1 x8_3).f0)))
                     rw [← Ny413.out] at HP42
                     have HQ42 := Aside0.mk HP42
                     clear HP42
                     refine start_ (n := 14) (S := fun w' => w'.cell? ⟨go38, ((rd ((rd_T48 l1 x8_3).f1) x9_4)).toNat, none⟩ = some (.int .i64 (rd x7_4 (rd ((rd_T48 l1 x8_3).f1) x9_4))) ∧ w'.cell? (ad406.add ((x8_3).toNat * 2)) = some (.int .i64 ((rd_T48 l1 x8_3).f0)) ∧ w'.cell? ⟨(ad406.add ((x8_3).toNat * 2)).block, (ad406.add ((x8_3).toNat * 2)).off + 1, none⟩ = some (.slice A412_1 ((rd_T48 l1 x8_3).f1).length c412_1)) (ds := [13]) (mk 14 0) (by kernel_rfl) rfl (by kernel_rfl) ⟨hx411_0, ((HB.out.cell (World.block_lt_of_cell? w _ hw412_0)).trans hw412_0), ((HB.out.cell (World.block_lt_of_cell? w _ hw412_1)).trans hw412_1)⟩ (fun hHeld => ?_); refine with_tabW tollbarref4_Loads.tab18 tollbarref4_Loads.bits18 (fun HT_ HW_ => ?_)
                     generalize w39.drew = w41 at HO_7 BK397 HB GG38 HQ42 HR412_1 hf38_0 hx38_0 hx410_0 hx411_0 hx412_0 hx412_1 hHeld ⊢
                     refine pu 0 81 (mk 14 1) HT_ ?_
                     refine pu 1 82 (mk 14 3) HT_ ?_
                     refine pu 2 83 (mk 14 7) HT_ ?_
                     refine pu 3 84 (mk 14 15) HT_ ?_
                     refine pu 4 85 (mk 14 31) HT_ ?_
                     refine pu 6 87 (mk 14 95) HT_ ?_
                     refine pu 7 88 (mk 14 223) HT_ ?_
                     refine pu 8 89 (mk 14 479) HT_ ?_
                     refine pu 9 90 (mk 14 991) HT_ ?_
                     refine ta 5 86 (mk 14 1023) rfl rfl HT_ HW_ hHeld (Or.inl ⟨by rfl, by rintro w' ⟨s0, s1, s2⟩; go_simp; with_reducible rfl⟩) ?_
                     refine ta 10 91 (mk 14 2047) rfl rfl HT_ HW_ hHeld (Or.inl ⟨by rfl, by rintro w' ⟨s0, s1, s2⟩; go_simp; with_reducible rfl⟩) ?_
                     refine pu 11 92 (mk 14 4095) HT_ ?_
                     refine pu 12 93 (mk 14 8191) HT_ ?_
                     refine last_ (i := 13) (N := none) (mk 14 16383) rfl rfl (one_of HT_.out (by kernel_rfl)) (by decide) (fun K hK => ?_)
                     refine skip_ (w1 := ?_) (by rfl) rfl ?_ ?_
                     rotate_left
                     ·
                      go_simp
                      rfl
                     refine hK.out _ _ ?_
                     clear hK K
                     refine done_ (done_of HT_.out (by kernel_rfl)) ?_
                     try go_wp2
                     go_roundg k4
                     case measure => have := HJ2.out; have := HK2.out; have := HK3.out; have := HK4.out; omega
                     case rel => exact ⟨(y413), (wrap64 (x9_4 + 1)), (by first | rfl | (simp; done) | (simp [*]; done)), H', ⟨by have := HJ2.out; have := HK2.out; have := HK3.out; have := HK4.out; omega⟩, ⟨by (with_reducible repeat (first | apply Kd.R_alloc | apply Kd.R_drewN | apply Kd.R_drew)); exact HQ42.out⟩, ⟨by (with_reducible repeat (first | refine blk_drewN ?_ _ | refine blk_drew ?_ | refine blk_alloc ?_ _)); refine blk_far ?_ (by have h_ := Kd.R_ne HO_7.out BK397.out (by decide); intro e_; exact h_ (by rw [e_]; rfl)) _; (with_reducible repeat (first | refine blk_drewN ?_ _ | refine blk_drew ?_ | refine blk_alloc ?_ _)); exact BK397.out⟩, ⟨by repeat (first | (with_reducible first | exact HB.out | apply below_alloc | apply pw_below_drewN | apply below_drew1 | refine below_set ?_ GB38.out | refine below_set ?_ GE397.out) | exact HB.out)⟩⟩
                   ·
                    rw [if_neg c34] at H
                    exact absurd H (by simp)
                  ·
                   rw [if_neg c33] at H
                   exact absurd H (by simp)
                 ·
                  rw [if_neg c32] at H
                  exact absurd H (by simp)
                ·
                 rw [if_neg c31] at H
                 have c31b0 : decide (x9_4 < (((rd_T48 l1 x8_3).f1).length : Int)) = false := decide_eq_false c31
                 clear c31
                 have H' := Aside0.mk H
                 clear H
                 have p406 : 0 ≤ (x8_3 : Int) := od
                 have q406 : x8_3 < (l1.length : Int) := od
                 obtain ⟨ad406, A406_1, c406_1, e406, hx406_0, hx406_1, hl406_1, hi406_1⟩ := at_T48 HR1.out x8_3 p406 q406
                 cases e406
                 replace hx406_0 := (HB.out.cell (World.block_lt_of_cell? w _ hx406_0)).trans hx406_0
                 replace hx406_1 := (HB.out.cell (World.block_lt_of_cell? w _ hx406_1)).trans hx406_1
                 have HR406_1 := Aside0.mk hi406_1
                 have HC406_1 := Aside0.mk hl406_1
                 clear hi406_1 hl406_1
                 replace p406 := eq_true p406
                 replace q406 := eq_true q406
                 go_wp2
                 go_roundg k4
                 case measure => have := HJ2.out; have := HK2.out; have := HK3.out; have := HK4.out; omega
                 case rel => exact ⟨(x7_4), (wrap64 (x8_3 + 1)), (by first | rfl | (simp; done) | (simp [*]; done)), H', ⟨by have := HJ2.out; have := HK2.out; have := HK3.out; have := HK4.out; omega⟩, ⟨by (with_reducible repeat (first | apply Kd.R_alloc | apply Kd.R_drewN | apply Kd.R_drew)); exact HO_7.out⟩, ⟨by (with_reducible repeat (first | refine blk_drewN ?_ _ | refine blk_drew ?_ | refine blk_alloc ?_ _)); exact BK397.out⟩, ⟨by repeat (first | (with_reducible first | exact HB.out | apply below_alloc | apply pw_below_drewN | apply below_drew1 | refine below_set ?_ GE397.out) | exact HB.out)⟩⟩
               ·
                rw [if_neg c30] at H
                exact absurd H (by simp)
              ·
               rw [if_neg c29] at H
               exact absurd H (by simp)
           ·
            rw [if_neg c28] at H
            have c28b0 : decide (x8_3 < (l1.length : Int)) = false := decide_eq_false c28
            clear c28
            simp only [Option.some.injEq, Prod.mk.injEq] at H
            obtain ⟨rfl, rfl⟩ := H
            go_wp2
            go_ret2
            exact ⟨_, by first | rfl | (simp [errW_none, errW_some] <;> rfl) | (simp [*, errW_none, errW_some] <;> rfl), by (with_reducible repeat (first | apply Kd.R_alloc | apply Kd.R_drewN | apply Kd.R_drew)); exact HO_7.out, by repeat (first | (with_reducible first | exact HB.out | apply below_alloc | apply pw_below_drewN | apply below_drew1 | refine below_set ?_ GE397.out) | exact HB.out)⟩
        ·
         rw [if_neg c24] at H
         exact absurd H (by simp)
       ·
        rw [if_neg c23] at H
        exact absurd H (by simp)
def tollbarref19_SameInts.l0 : Nat → List Int → List Int → Int → Option (Bool)
  | 0, _, _, _ => none
  | k + 1, x0, x1, x5 => if x5 < (x0.length : Int) then (if 0 ≤ x5 then (if x5 < (x1.length : Int) then (if (rd x0 x5) = (rd x1 x5) then (tollbarref19_SameInts.l0 k x0 x1 (wrap64 (x5 + 1))) else (some false)) else (none)) else (none)) else (some true)
def tollbarref19_SameInts.f (k : Nat) (l0 : List Int) (l1 : List Int) : Option (Bool) := if (l0.length : Int) = (l1.length : Int) then (tollbarref19_SameInts.l0 k l0 l1 0) else (some false)
theorem tollbarref19_SameInts.calls (k : Nat) (A0 : Option Addr) (c0 : Nat) (l0 : List Int) (A1 : Option Addr) (c1 : Nat) (l1 : List Int) (r : Bool) (w : World) (hr0 : Kd.C (Kd.int .i64) w A0 l0.length l0) (hc0 : l0.length ≤ c0) (hr1 : Kd.C (Kd.int .i64) w A1 l1.length l1) (hc1 : l1.length ≤ c1) (h : tollbarref19_SameInts.f k l0 l1 = some r) :
    Calls Try.prog 35 #[.slice A0 l0.length c0, .slice A1 l1.length c1] w fun e w' => e = .returned (.bool r) ∧ Drawn0 w w' := by
  have HR0 := Aside0.mk hr0
  have HC0 := Aside0.mk hc0
  clear hr0 hc0
  have HR1 := Aside0.mk hr1
  have HC1 := Aside0.mk hc1
  clear hr1 hc1
  have H : (if (l0.length : Int) = (l1.length : Int) then (tollbarref19_SameInts.l0 k l0 l1 0) else (some false)) = some r := h
  clear h
  by_cases c3 : (l0.length : Int) = (l1.length : Int)
  · rw [if_pos c3] at H
    have c3b0 : ((l0.length : Int) == (l1.length : Int)) = true := beq_iff_eq.mpr c3
    have c3b1 : ((l0.length : Int) != (l1.length : Int)) = false := bne_eq_false_iff_eq.mpr c3
    have c3b2 : (l0.length == l1.length) = true := by first | simpa using c3 | (simp at c3 ⊢; omega)
    clear c3
    have H' := Aside0.mk H
    clear H
    go_enter Try.func35, Try.ntmps35
    go_wp2
    repeat (go_quiet (fail); try go_wp2)
    go_loopg [5] k (fun kq v5 w' => ∃ (x5_1 : Int), v5 = .int .i64 x5_1 ∧ Aside0 (tollbarref19_SameInts.l0 kq l0 l1 x5_1 = some r) ∧ Aside0 (kq ≤ k) ∧ Drawn0 w w')
    case atStart => exact ⟨(0), (by first | rfl | (simp; done) | (simp [*]; done)), H', ⟨Nat.le_refl _⟩, by repeat (first | exact Drawn0.refl _ | apply Drawn0.step)⟩
    case round =>
      clear H'
      try clear c1
      try clear p2
      try clear c3
      try clear c3b0
      try clear c3b1
      try clear c3b2
      obtain ⟨x5_1, rfl, HA, HK1, ⟨m1, rfl⟩⟩ := hrel
      cases gk with
      | zero => exact absurd HA.out (by simp [tollbarref19_SameInts.l0])
      | succ k1 =>
        have H := HA.out
        clear HA
        simp only [tollbarref19_SameInts.l0] at H
        by_cases c4 : x5_1 < (l0.length : Int)
        · rw [if_pos c4] at H
          have c4b0 : decide (x5_1 < (l0.length : Int)) = true := decide_eq_true c4
          clear c4
          by_cases c5 : 0 ≤ x5_1
          · rw [if_pos c5] at H
            have c5b0 : decide (0 ≤ x5_1) = true := decide_eq_true c5
            clear c5
            by_cases c6 : x5_1 < (l1.length : Int)
            · rw [if_pos c6] at H
              have c6b0 : decide (x5_1 < (l1.length : Int)) = true := decide_eq_true c6
              clear c6
              by_cases c7 : (rd l0 x5_1) = (rd l1 x5_1)
              · rw [if_pos c7] at H
                have c7b0 : ((rd l0 x5_1) == (rd l1 x5_1)) = true := beq_iff_eq.mpr c7
                have c7b1 : ((rd l0 x5_1) != (rd l1 x5_1)) = false := bne_eq_false_iff_eq.mpr c7
                clear c7
                have H' := Aside0.mk H
                clear H
                have p417 : 0 ≤ (x5_1 : Int) := od
                have q417 : x5_1 < (l0.length : Int) := od
                obtain ⟨ad417, e417, hx417_0⟩ := Kd.at_int HR0.out x5_1 p417 q417
                cases e417
                replace p417 := eq_true p417
                replace q417 := eq_true q417
                have p418 : 0 ≤ (x5_1 : Int) := od
                have q418 : x5_1 < (l1.length : Int) := od
                obtain ⟨ad418, e418, hx418_0⟩ := Kd.at_int HR1.out x5_1 p418 q418
                cases e418
                replace p418 := eq_true p418
                replace q418 := eq_true q418
                go_wp2
                repeat (go_quiet (fail); try go_wp2)
                go_roundg k1
                case measure => have := HK1.out; omega
                case rel => exact ⟨(wrap64 (x5_1 + 1)), (by first | rfl | (simp; done) | (simp [*]; done)), H', ⟨by have := HK1.out; omega⟩, by repeat (first | exact Drawn0.refl _ | apply Drawn0.step)⟩
              · rw [if_neg c7] at H
                have c7b0 : ((rd l0 x5_1) == (rd l1 x5_1)) = false := beq_eq_false_iff_ne.mpr c7
                have c7b1 : ((rd l0 x5_1) != (rd l1 x5_1)) = true := bne_iff_ne.mpr c7
                obtain rfl := Option.some.inj H
                have p417 : 0 ≤ (x5_1 : Int) := od
                have q417 : x5_1 < (l0.length : Int) := od
                obtain ⟨ad417, e417, hx417_0⟩ := Kd.at_int HR0.out x5_1 p417 q417
                cases e417
                replace p417 := eq_true p417
                replace q417 := eq_true q417
                have p418 : 0 ≤ (x5_1 : Int) := od
                have q418 : x5_1 < (l1.length : Int) := od
                obtain ⟨ad418, e418, hx418_0⟩ := Kd.at_int HR1.out x5_1 p418 q418
                cases e418
                replace p418 := eq_true p418
                replace q418 := eq_true q418
                go_wp2
                repeat (go_quiet (fail); try go_wp2)
                go_ret
                exact ⟨by first | rfl | (simp; done) | (simp [*]; done), by repeat (first | exact Drawn0.refl _ | apply Drawn0.step)⟩
            · rw [if_neg c6] at H
              exact absurd H (by simp)
          · rw [if_neg c5] at H
            exact absurd H (by simp)
        · rw [if_neg c4] at H
          have c4b0 : decide (x5_1 < (l0.length : Int)) = false := decide_eq_false c4
          clear c4
          obtain rfl := Option.some.inj H
          go_wp2
          repeat (go_quiet (fail); try go_wp2)
          go_ret
          exact ⟨by first | rfl | (simp; done) | (simp [*]; done), by repeat (first | exact Drawn0.refl _ | apply Drawn0.step)⟩
  · rw [if_neg c3] at H
    have c3b0 : ((l0.length : Int) == (l1.length : Int)) = false := beq_eq_false_iff_ne.mpr c3
    have c3b1 : ((l0.length : Int) != (l1.length : Int)) = true := bne_iff_ne.mpr c3
    have c3b2 : (l0.length == l1.length) = false := by first | simpa using c3 | (simp at c3 ⊢; omega)
    obtain rfl := Option.some.inj H
    go_enter Try.func35, Try.ntmps35
    go_wp2
    repeat (go_quiet (fail); try go_wp2)
    go_ret
    exact ⟨by first | rfl | (simp; done) | (simp [*]; done), by repeat (first | exact Drawn0.refl _ | apply Drawn0.step)⟩
def tollbarlaw0_SameInts.f (k : Nat) (l0 : List Int) (l1 : List Int) : Option (Bool) := (tollbarref19_SameInts.f k l0 l1).bind fun t419 => (some t419)
theorem tollbarlaw0_SameInts.calls (k : Nat) (A0 : Option Addr) (c0 : Nat) (l0 : List Int) (A1 : Option Addr) (c1 : Nat) (l1 : List Int) (r : Bool) (w : World) (hr0 : Kd.C (Kd.int .i64) w A0 l0.length l0) (hc0 : l0.length ≤ c0) (hr1 : Kd.C (Kd.int .i64) w A1 l1.length l1) (hc1 : l1.length ≤ c1) (h : tollbarlaw0_SameInts.f k l0 l1 = some r) :
    Calls Try.prog 20 #[.slice A0 l0.length c0, .slice A1 l1.length c1] w fun e w' => e = .returned (.bool r) ∧ Drawn0 w w' := by
  have HR0 := Aside0.mk hr0
  have HC0 := Aside0.mk hc0
  clear hr0 hc0
  have HR1 := Aside0.mk hr1
  have HC1 := Aside0.mk hc1
  clear hr1 hc1
  have H : ((tollbarref19_SameInts.f k l0 l1).bind fun t419 => (some t419)) = some r := h
  clear h
  replace H := Option.bind_eq_some_iff.mp H
  obtain ⟨t419, A30, H⟩ := H
  replace H : (some t419) = some r := H
  have A3 := Aside0.mk A30
  clear A30
  obtain rfl := Option.some.inj H
  go_enter Try.func20, Try.ntmps20
  go_wp2_with (first | ((with_reducible refine gate_callee (f := 35) rfl ?_); refine goesL_ (some 7) rfl rfl Try.func35 (by kernel_rfl) rfl #[.slice A0 l0.length c0, .slice A1 l1.length c1] rfl (by (try simp only [List.map_toArray, List.map_cons, List.map_nil]); first | done | rfl | (simp only [List.length_drop, List.length_take]; rfl)) ?_; (with_reducible refine (tollbarref19_SameInts.calls k _ _ l0 _ _ l1 t419 _ ?side1 ?side2 ?side3 ?side4 A3.out).mono ?_); (case side1 => repeat (first | exact HR0.out | (with_reducible refine Kd.C_alloc ?_ _) | (with_reducible refine Kd.C_drewN ?_ _) | (with_reducible refine Kd.C_drew ?_))); (case side2 => exact HC0.out); (case side3 => repeat (first | exact HR1.out | (with_reducible refine Kd.C_alloc ?_ _) | (with_reducible refine Kd.C_drewN ?_ _) | (with_reducible refine Kd.C_drew ?_))); (case side4 => exact HC1.out); rintro e w' ⟨rfl, ⟨nd, rfl⟩⟩; refine ⟨_, rfl, ?_⟩))
  go_ret
  exact ⟨by first | rfl | (simp; done) | (simp [*]; done), by repeat (first | exact Drawn0.refl _ | apply Drawn0.step)⟩
def tollbarlaw0_KeptInts.f (k : Nat) (l0 : List Int) (l1 : List Int) : Option (Bool) := if l0.length + 2 < 17592186044416 then (if l0.length = l1.length then ((tollbarlaw0_SameInts.f k l0 l1).bind fun t341 => (if t341 = true then some true else none)) else none) else none
theorem tollbarlaw0_KeptInts.calls (k : Nat) (A0 : Option Addr) (c0 : Nat) (l0 : List Int) (A1 : Option Addr) (c1 : Nat) (l1 : List Int) (r : Bool) (w : World) (hr0 : Kd.C (Kd.int .i64) w A0 (l0 ++ kz).length (l0 ++ kz)) (hc0 : (l0 ++ kz).length ≤ c0) (hr1 : Kd.C (Kd.int .i64) w A1 l1.length l1) (hc1 : l1.length ≤ c1) (h : tollbarlaw0_KeptInts.f k l0 l1 = some r) :
    Calls Try.prog 18 #[.slice A0 l0.length c0, .slice A1 l1.length c1] w fun e w' => e = .returned (.bool r) ∧ Drawn0 w w' := by
  have HR0 := ak hr0; have HC0 := ak hc0; clear hr0 hc0; have HR1 := ak hr1; have HC1 := ak hc1; clear hr1 hc1; have H : (if l0.length + 2 < 17592186044416 then (if l0.length = l1.length then ((tollbarlaw0_SameInts.f k l0 l1).bind fun t341 => (if t341 = true then some true else none)) else none) else none) = some r := h; clear h
  by_cases c1 : l0.length + 2 < 17592186044416
  · rw [if_pos c1] at H
    by_cases c2 : l0.length = l1.length
    · rw [if_pos c2] at H
      replace H := Option.bind_eq_some_iff.mp H; obtain ⟨t341, A60, H⟩ := H; cases t341 with
      | false => exact absurd H (by simp)
      | true =>
        have H1 : some true = some r := H; obtain rfl : true = r := Option.some.inj H1; clear H H1; have A6 := ak A60; clear A60
        obtain ⟨ji3, hji3⟩ : ∃ j_ : Int, (wrap64 ((l0.length : Int) + 2)) = j_ := ⟨_, rfl⟩
        have hji3w : (IntKind.i64.wrap ((l0.length : Int) + 2)) = ji3 := (i64_w _).trans hji3
        have vji3 : ji3 = (l0.length : Int) + 2 := by rw [← hji3]; exact kept_wrap _ 2 c1 (by omega) (by omega)
        obtain ⟨ji11, hji11⟩ : ∃ j_ : Int, (wrap64 ((l1.length : Int) + 1)) = j_ := ⟨_, rfl⟩
        have hji11w : (IntKind.i64.wrap ((l1.length : Int) + 1)) = ji11 := (i64_w _).trans hji11
        have vji11 : ji11 = (l0.length : Int) + 1 := by rw [← hji11, ← c2]; exact kept_wrap _ 1 c1 (by omega) (by omega)
        obtain ⟨i014, hi014, _, hsz14, _⟩ := info_parts info3; have hcut14 := kept_cut (P := Try.prog) 25 3 Try.underlying25 hi014 A0 l0.length c0 ji3 (by omega) (by have := HC0.out; rw [kz_len] at this; omega)
        obtain ⟨fl, hfl⟩ : ∃ fl : List Int, fl = l0 ++ kz := ⟨_, rfl⟩
        have HR340 := ak (show Kd.C (Kd.int .i64) w A0 fl.length fl by rw [hfl]; exact HR0.out)
        have e14 : ji3.toNat = fl.length := by rw [hfl, kz_len]; omega
        rw [e14] at hcut14
        have p342 : 0 ≤ (l1.length : Int) := by omega
        have q342 : (l1.length : Int) < (fl.length : Int) := by rw [hfl, kz_len]; omega
        have z342 : rd fl (l1.length : Int) = -7777 := by rw [← c2, hfl]; exact kept_0 l0
        have p343 : 0 ≤ ji11 := by omega
        have q343 : ji11 < (fl.length : Int) := by rw [hfl, kz_len]; omega
        have z343 : rd fl ji11 = -8888 := by rw [vji11, hfl]; exact kept_1 l0
        have p342d : decide (0 ≤ (l1.length : Int)) = true := decide_eq_true p342; have q342d : decide ((l1.length : Int) < (fl.length : Int)) = true := decide_eq_true q342; have q342e : decide (l1.length < fl.length) = true := decide_eq_true (by omega); have p343d : decide (0 ≤ ji11) = true := decide_eq_true p343; have q343d : decide (ji11 < (fl.length : Int)) = true := decide_eq_true q343; replace p342 := eq_true p342; replace q342 := eq_true q342; replace p343 := eq_true p343; replace q343 := eq_true q343; replace hfl := ak hfl; clear c1 c2 vji3 vji11 e14
        go_enter Try.func18, Try.ntmps18
        go_wp2_with (first | ((with_reducible refine gate_callee (f := 20) rfl ?_); refine goesL_ (some 13) rfl rfl Try.func20 (by kernel_rfl) rfl #[.slice A0 l0.length c0, .slice A1 l1.length c1] rfl (by (try simp only [List.map_toArray, List.map_cons, List.map_nil]); first | done | rfl | (simp only [List.length_drop, List.length_take]; rfl)) ?_; (with_reducible refine (tollbarlaw0_SameInts.calls k _ _ l0 _ _ l1 true _ ?side1 ?side2 ?side3 ?side4 A6.out).mono ?_); (case side1 => exact (kept_c HR0.out)); (case side2 => exact (kept_le HC0.out)); (case side3 => exact HR1.out); (case side4 => exact HC1.out); rintro e w' ⟨rfl, ⟨nd, rfl⟩⟩; refine ⟨_, rfl, ?_⟩; obtain ⟨ad342, e342, hx342_0⟩ := Kd.at_int HR340.out (l1.length : Int) (of_eq_true p342) (of_eq_true q342); rw [z342] at hx342_0; cases e342; (try simp only [Go.IntWalk.toNatUp] at hx342_0); obtain ⟨ad343, e343, hx343_0⟩ := Kd.at_int HR340.out (ji11) (of_eq_true p343) (of_eq_true q343); rw [z343] at hx343_0; obtain rfl : ad342 = ad343 := (by injection e343)))
        go_ret
        exact ⟨by first | rfl | (simp; done) | (simp [*]; done), by repeat (first | exact Drawn0.refl _ | apply Drawn0.step)⟩
    · rw [if_neg c2] at H
      exact absurd H (by simp)
  · rw [if_neg c1] at H
    exact absurd H (by simp)
end Go.Proofs.Ytjpgnmbocklenaa.PAll
end
