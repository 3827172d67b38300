/- Texts of this claim, one behind the other: F16, F31, F15. -/
import Derived.Test.YtjpgnmbocklenaaAcf57aa
import Derived.Test.YtjpgnmbocklenaaA0b9b99
section
namespace Go.Proofs.Ytjpgnmbocklenaa.PAll
open Go.RowKit Go.Proofs.YtjpgnmbocklenaaW.PrintWords Go.Proofs.YtjpgnmbocklenaaW.PrintLast Go.Proofs.YtjpgnmbocklenaaW.PrintMore
attribute [local go_sem] max2_int min2_int max_two min_two max_three min_three max_four min_four   -- for this text's walks alone
set_option linter.unusedVariables false
set_option linter.unusedSimpArgs false
/-! ### tollbarref4_Within: function 16 -/
def tollbarref4_Within.l0 : Nat → List Int → List Int → Int → Option (Bool)
  | 0, _, _, _ => none
  | k + 1, x0, x1, x5 => if x5 < (x1.length : Int) then (if 0 ≤ x5 then (if (rd x1 x5) < 0 then (some false) else (if x5 < (x0.length : Int) then (if (rd x1 x5) > (rd x0 x5) then (some false) else (tollbarref4_Within.l0 k x0 x1 (wrap64 (x5 + 1)))) else (none))) else (none)) else (some true)
def tollbarref4_Within.f (k : Nat) (l0 : List Int) (l1 : List Int) : Option (Bool) := if (l1.length : Int) = (l0.length : Int) then (tollbarref4_Within.l0 k l0 l1 0) else (some false)
set_option maxHeartbeats 8000000 in
set_option maxRecDepth 100000 in
theorem tollbarref4_Within.calls (k : Nat) (A0 : Option Addr) (c0 : Nat) (l0 : List Int) (A1 : Option Addr) (c1 : Nat) (l1 : List Int) (r : Bool) (w : World) (hr0 : Kd.C (Kd.int .i64) w A0 l0.length l0) (hc0 : l0.length ≤ c0) (hr1 : Kd.C (Kd.int .i64) w A1 l1.length l1) (hc1 : l1.length ≤ c1) (h : tollbarref4_Within.f k l0 l1 = some r) :
    Calls Try.prog 16 #[.slice A0 l0.length c0, .slice A1 l1.length c1] w fun e w' => e = .returned (.bool r) ∧ Drawn0 w w' := by
  have HR0 := Aside0.mk hr0
  have HC0 := Aside0.mk hc0
  clear hr0 hc0
  have HR1 := Aside0.mk hr1
  have HC1 := Aside0.mk hc1
  clear hr1 hc1
  have H : (if (l1.length : Int) = (l0.length : Int) then (tollbarref4_Within.l0 k l0 l1 0) else (some false)) = some r := h
  clear h
  by_cases c3 : (l1.length : Int) = (l0.length : Int)
  · rw [if_pos c3] at H
    have c3b0 : ((l1.length : Int) == (l0.length : Int)) = true := beq_iff_eq.mpr c3
    have c3b1 : ((l1.length : Int) != (l0.length : Int)) = false := bne_eq_false_iff_eq.mpr c3
    have c3b2 : (l1.length == l0.length) = true := by first | simpa using c3 | (simp at c3 ⊢; omega)
    clear c3
    have H' := Aside0.mk H
    clear H
    go_enter Try.func16, Try.ntmps16
    go_wp2
    repeat (go_quiet (fail); try go_wp2)
    go_loopg [5] k (fun kq v5 w' => ∃ (x5_1 : Int), v5 = .int .i64 x5_1 ∧ Aside0 (tollbarref4_Within.l0 kq l0 l1 x5_1 = some r) ∧ Aside0 (kq ≤ k) ∧ Drawn0 w w')
    case atStart => exact ⟨(0), (by first | rfl | (simp; done) | (simp [*]; done)), H', ⟨Nat.le_refl _⟩, by repeat (first | exact Drawn0.refl _ | apply Drawn0.step)⟩
    case round =>
      clear H'
      try clear c1
      try clear p2
      try clear c3
      try clear c3b0
      try clear c3b1
      try clear c3b2
      obtain ⟨x5_1, rfl, HA, HK1, ⟨m1, rfl⟩⟩ := hrel
      cases gk with
      | zero => exact absurd HA.out (by simp [tollbarref4_Within.l0])
      | succ k1 =>
        have H := HA.out
        clear HA
        simp only [tollbarref4_Within.l0] at H
        by_cases c4 : x5_1 < (l1.length : Int)
        · rw [if_pos c4] at H
          have c4b0 : decide (x5_1 < (l1.length : Int)) = true := decide_eq_true c4
          clear c4
          by_cases c5 : 0 ≤ x5_1
          · rw [if_pos c5] at H
            have c5b0 : decide (0 ≤ x5_1) = true := decide_eq_true c5
            clear c5
            by_cases c6 : (rd l1 x5_1) < 0
            · rw [if_pos c6] at H
              have c6b0 : decide ((rd l1 x5_1) < 0) = true := decide_eq_true c6
              clear c6
              obtain rfl := Option.some.inj H
              have p297 : 0 ≤ (x5_1 : Int) := of_decide_eq_true (by first | (with_reducible assumption) | assumption)
              have q297 : x5_1 < (l1.length : Int) := of_decide_eq_true (by first | (with_reducible assumption) | assumption)
              obtain ⟨ad297, e297, hx297_0⟩ := Kd.at_int HR1.out x5_1 p297 q297
              cases e297
              replace p297 := eq_true p297
              replace q297 := eq_true q297
              go_wp2
              repeat (go_quiet (fail); try go_wp2)
              go_ret
              exact ⟨by first | rfl | (simp; done) | (simp [*]; done), by repeat (first | exact Drawn0.refl _ | apply Drawn0.step)⟩
            · rw [if_neg c6] at H
              have c6b0 : decide ((rd l1 x5_1) < 0) = false := decide_eq_false c6
              clear c6
              by_cases c7 : x5_1 < (l0.length : Int)
              · rw [if_pos c7] at H
                have c7b0 : decide (x5_1 < (l0.length : Int)) = true := decide_eq_true c7
                clear c7
                by_cases c8 : (rd l1 x5_1) > (rd l0 x5_1)
                · rw [if_pos c8] at H
                  have c8b0 : decide ((rd l0 x5_1) < (rd l1 x5_1)) = true := decide_eq_true c8
                  clear c8
                  obtain rfl := Option.some.inj H
                  have p297 : 0 ≤ (x5_1 : Int) := of_decide_eq_true (by first | (with_reducible assumption) | assumption)
                  have q297 : x5_1 < (l1.length : Int) := of_decide_eq_true (by first | (with_reducible assumption) | assumption)
                  obtain ⟨ad297, e297, hx297_0⟩ := Kd.at_int HR1.out x5_1 p297 q297
                  cases e297
                  replace p297 := eq_true p297
                  replace q297 := eq_true q297
                  have p298 : 0 ≤ (x5_1 : Int) := of_decide_eq_true (by first | (with_reducible assumption) | assumption)
                  have q298 : x5_1 < (l1.length : Int) := of_decide_eq_true (by first | (with_reducible assumption) | assumption)
                  obtain ⟨ad298, e298, hx298_0⟩ := Kd.at_int HR1.out x5_1 p298 q298
                  obtain rfl : ad297 = ad298 := (by injection e298)
                  replace p298 := eq_true p298
                  replace q298 := eq_true q298
                  have p299 : 0 ≤ (x5_1 : Int) := of_decide_eq_true (by first | (with_reducible assumption) | assumption)
                  have q299 : x5_1 < (l0.length : Int) := of_decide_eq_true (by first | (with_reducible assumption) | assumption)
                  obtain ⟨ad299, e299, hx299_0⟩ := Kd.at_int HR0.out x5_1 p299 q299
                  cases e299
                  replace p299 := eq_true p299
                  replace q299 := eq_true q299
                  go_wp2
                  repeat (go_quiet (fail); try go_wp2)
                  go_ret
                  exact ⟨by first | rfl | (simp; done) | (simp [*]; done), by repeat (first | exact Drawn0.refl _ | apply Drawn0.step)⟩
                · rw [if_neg c8] at H
                  have c8b0 : decide ((rd l0 x5_1) < (rd l1 x5_1)) = false := decide_eq_false c8
                  clear c8
                  have H' := Aside0.mk H
                  clear H
                  have p297 : 0 ≤ (x5_1 : Int) := of_decide_eq_true (by first | (with_reducible assumption) | assumption)
                  have q297 : x5_1 < (l1.length : Int) := of_decide_eq_true (by first | (with_reducible assumption) | assumption)
                  obtain ⟨ad297, e297, hx297_0⟩ := Kd.at_int HR1.out x5_1 p297 q297
                  cases e297
                  replace p297 := eq_true p297
                  replace q297 := eq_true q297
                  have p298 : 0 ≤ (x5_1 : Int) := of_decide_eq_true (by first | (with_reducible assumption) | assumption)
                  have q298 : x5_1 < (l1.length : Int) := of_decide_eq_true (by first | (with_reducible assumption) | assumption)
                  obtain ⟨ad298, e298, hx298_0⟩ := Kd.at_int HR1.out x5_1 p298 q298
                  obtain rfl : ad297 = ad298 := (by injection e298)
                  replace p298 := eq_true p298
                  replace q298 := eq_true q298
                  have p299 : 0 ≤ (x5_1 : Int) := of_decide_eq_true (by first | (with_reducible assumption) | assumption)
                  have q299 : x5_1 < (l0.length : Int) := of_decide_eq_true (by first | (with_reducible assumption) | assumption)
                  obtain ⟨ad299, e299, hx299_0⟩ := Kd.at_int HR0.out x5_1 p299 q299
                  cases e299
                  replace p299 := eq_true p299
                  replace q299 := eq_true q299
                  go_wp2
                  repeat (go_quiet (fail); try go_wp2)
                  go_roundg k1
                  case measure => have := HK1.out; omega
                  case rel => exact ⟨(wrap64 (x5_1 + 1)), (by first | rfl | (simp; done) | (simp [*]; done)), H', ⟨by have := HK1.out; omega⟩, by repeat (first | exact Drawn0.refl _ | apply Drawn0.step)⟩
              · rw [if_neg c7] at H
                exact absurd H (by simp)
          · rw [if_neg c5] at H
            exact absurd H (by simp)
        · rw [if_neg c4] at H
          have c4b0 : decide (x5_1 < (l1.length : Int)) = false := decide_eq_false c4
          clear c4
          obtain rfl := Option.some.inj H
          go_wp2
          repeat (go_quiet (fail); try go_wp2)
          go_ret
          exact ⟨by first | rfl | (simp; done) | (simp [*]; done), by repeat (first | exact Drawn0.refl _ | apply Drawn0.step)⟩
  · rw [if_neg c3] at H
    have c3b0 : ((l1.length : Int) == (l0.length : Int)) = false := beq_eq_false_iff_ne.mpr c3
    have c3b1 : ((l1.length : Int) != (l0.length : Int)) = true := bne_iff_ne.mpr c3
    have c3b2 : (l1.length == l0.length) = false := by first | simpa using c3 | (simp at c3 ⊢; omega)
    obtain rfl := Option.some.inj H
    go_enter Try.func16, Try.ntmps16
    go_wp2
    repeat (go_quiet (fail); try go_wp2)
    go_ret
    exact ⟨by first | rfl | (simp; done) | (simp [*]; done), by repeat (first | exact Drawn0.refl _ | apply Drawn0.step)⟩
/-! ### tollbarref1_Rate: function 31 -/
def tollbarref1_Rate.f (a0 : Int) : Option (Bool) := if a0 ≥ 0 then (some (decide (a0 ≤ 4611686018427387904))) else (some false)
set_option maxHeartbeats 8000000 in
set_option maxRecDepth 100000 in
theorem tollbarref1_Rate.calls (a0 : Int) (r : Bool) (w : World) (h : tollbarref1_Rate.f a0 = some r) :
    Calls Try.prog 31 #[.int .i64 a0] w fun e w' => e = .returned (.bool r) ∧ Drawn0 w w' := by
  have H : (if a0 ≥ 0 then (some (decide (a0 ≤ 4611686018427387904))) else (some false)) = some r := h
  clear h
  by_cases c2 : a0 ≥ 0
  · rw [if_pos c2] at H
    have c2b0 : decide (0 ≤ a0) = true := decide_eq_true c2
    clear c2
    obtain rfl := Option.some.inj H
    go_enter Try.func31, Try.ntmps31
    go_wp2
    go_ret
    exact ⟨by first | rfl | (simp; done) | (simp [*]; done), by repeat (first | exact Drawn0.refl _ | apply Drawn0.step)⟩
  · rw [if_neg c2] at H
    have c2b0 : decide (0 ≤ a0) = false := decide_eq_false c2
    clear c2
    obtain rfl := Option.some.inj H
    go_enter Try.func31, Try.ntmps31
    go_wp2
    go_ret
    exact ⟨by first | rfl | (simp; done) | (simp [*]; done), by repeat (first | exact Drawn0.refl _ | apply Drawn0.step)⟩
/-! ### tollbarref4_Loads: function 15 -/
mutual
def tollbarref4_Loads.j0 : Nat → List (S48) → Bool → Int → List (S53) → Option (List Int × Int)
 | 0, _, _, _, _ => none
 | k + 1, x1, x18, x398000, x398001 => if x18 = true then (some (([] : List Int), 700)) else (tollbarref4_Loads.l0 k x1 0 x398000 x398001)
def tollbarref4_Loads.l0 : Nat → List (S48) → Int → Int → List (S53) → Option (List Int × Int)
 | 0, _, _, _, _ => none
 | k + 1, x1, x6, x398000, x398001 => if x6 < (x1.length : Int) then (if 0 ≤ x6 then ((tollbarref1_Rate.f ((rd_T48 x1 x6).f0)).bind fun t400 => (if t400 = true then ((tollbarref4_links.f k x398000 x398001 ((rd_T48 x1 x6).f1)).bind fun t402 => (if t402 = true then (tollbarref4_Loads.l0 k x1 (wrap64 (x6 + 1)) x398000 x398001) else (some (([] : List Int), 700)))) else (some (([] : List Int), 700)))) else (none)) else (if 0 ≤ (x398001.length : Int) then (if ((x398001.length : Int) : Int).toNat ≤ 35184372088832 then (tollbarref4_Loads.l1 k x1 (List.replicate ((x398001.length : Int) : Int).toNat 0) 0) else (none)) else (none))
def tollbarref4_Loads.l1 : Nat → List (S48) → List Int → Int → Option (List Int × Int)
 | 0, _, _, _ => none
 | k + 1, x1, x7, x8 => if x8 < (x1.length : Int) then (tollbarref4_Loads.l2 k x1 x7 x8 0) else (some (x7, 0))
def tollbarref4_Loads.l2 : Nat → List (S48) → List Int → Int → Int → Option (List Int × Int)
 | 0, _, _, _, _ => none
 | k + 1, x1, x7, x8, x9 => if 0 ≤ x8 then (if x8 < (x1.length : Int) then (if x9 < (((rd_T48 x1 x8).f1).length : Int) then (if 0 ≤ x9 then (if 0 ≤ (rd ((rd_T48 x1 x8).f1) x9) then (if (rd ((rd_T48 x1 x8).f1) x9) < (x7.length : Int) then (if ((rd_T48 x1 x8).f0) > (wrap64 (4611686018427387904 - (rd x7 (rd ((rd_T48 x1 x8).f1) x9)))) then (some (([] : List Int), 701)) else (tollbarref4_Loads.l2 k x1 (x7.set ((rd ((rd_T48 x1 x8).f1) x9) : Int).toNat (wrap64 ((rd x7 (rd ((rd_T48 x1 x8).f1) x9)) + ((rd_T48 x1 x8).f0)))) x8 (wrap64 (x9 + 1)))) else (none)) else (none)) else (none)) else (tollbarref4_Loads.l1 k x1 x7 (wrap64 (x8 + 1)))) else (none)) else (none)
end
def tollbarref4_Loads.f (k : Nat) (a0_0 : Int) (l0_1 : List (S53)) (l1 : List (S48)) : Option (List Int × Int) := (tollbarref4_GraphMay.f k a0_0 l0_1).bind fun t398 => (if t398 = true then (tollbarref4_Loads.j0 k l1 (decide ((l1.length : Int) > 16)) a0_0 l0_1) else (tollbarref4_Loads.j0 k l1 true a0_0 l0_1))
def tollbarref4_Loads.T6 : Bool × List (List Nat × List Nat) := (true, [([], []), ([], []), ([0, 1], [0, 1]), ([2], [2]), ([3], [3]), ([4], [4]), ([5], [5]), ([6, 5], [6]), ([7], [7]), ([7], [7]), ([7], [7]), ([9, 10, 7], [7, 9, 10]), ([11, 7], [7, 11]), ([12, 7], [7, 12]), ([8, 13, 7, 7], [7, 8, 13]), ([14, 7], [7, 14]), ([7, 15], [7, 15])])
def tollbarref4_Loads.B6 : List Nat := [0, 0, 3, 7, 15, 31, 63, 127, 255, 255, 255, 1791, 3839, 7935, 16383, 32767, 65535]
theorem tollbarref4_Loads.tab6 : rtab .any (opsOf Try.f15 6) = tollbarref4_Loads.T6 := by kernel_rfl
theorem tollbarref4_Loads.bits6 : waitsOk tollbarref4_Loads.T6.2 tollbarref4_Loads.B6 = true := by kernel_rfl
def tollbarref4_Loads.T16 : Bool × List (List Nat × List Nat) := (true, [([], []), ([], []), ([0, 1], [0, 1]), ([2], [2]), ([3], [3]), ([], []), ([], []), ([5, 6], [5, 6]), ([7], [7]), ([8], [8]), ([4, 9], [4, 9])])
def tollbarref4_Loads.B16 : List Nat := [0, 0, 3, 7, 15, 0, 0, 96, 224, 480, 1023]
theorem tollbarref4_Loads.tab16 : rtab .any (opsOf Try.f15 16) = tollbarref4_Loads.T16 := by kernel_rfl
theorem tollbarref4_Loads.bits16 : waitsOk tollbarref4_Loads.T16.2 tollbarref4_Loads.B16 = true := by kernel_rfl
def tollbarref4_Loads.T18 : Bool × List (List Nat × List Nat) := (true, [([], []), ([], []), ([], []), ([], []), ([2, 3], [2, 3]), ([4], [4]), ([], []), ([], []), ([6, 7], [6, 7]), ([8], [8]), ([9], [9]), ([5, 10], [5, 10]), ([0, 1, 0, 1, 2, 3, 4, 5, 6, 7, 8, 9, 10, 11], [0, 1]), ([12, 11, 0, 1, 2, 3, 4, 5, 6, 7, 8, 9, 10, 11], [11, 12])])
def tollbarref4_Loads.B18 : List Nat := [0, 0, 0, 0, 12, 28, 0, 0, 192, 448, 960, 2044, 4095, 8191]
theorem tollbarref4_Loads.tab18 : rtab .any (opsOf Try.f15 18) = tollbarref4_Loads.T18 := by kernel_rfl
theorem tollbarref4_Loads.bits18 : waitsOk tollbarref4_Loads.T18.2 tollbarref4_Loads.B18 = true := by kernel_rfl
set_option maxHeartbeats 8000000 in
set_option maxRecDepth 100000 in
theorem tollbarref4_Loads.calls (k : Nat) (a0_0 : Int) (A0_1 : Option Addr) (c0_1 : Nat) (l0_1 : List (S53)) (A1 : Option Addr) (c1 : Nat) (l1 : List (S48)) (r1 : List Int) (r2 : Int) (w : World) (hr0_1 : Kd.C k53 w A0_1 l0_1.length l0_1) (hc0_1 : l0_1.length ≤ c0_1) (hr1 : Kd.C k48 w A1 l1.length l1) (hc1 : l1.length ≤ c1) (h : tollbarref4_Loads.f k a0_0 l0_1 l1 = some (r1, r2)) :
  Calls Try.prog 15 #[.agg #[.int .i64 a0_0, .slice A0_1 l0_1.length c0_1], .slice A1 l1.length c1] w fun e w' => ∃ v0_ : Value, e = .returned (.tuple #[v0_, .int .i64 r2]) ∧ Kd.R (Kd.int .i64) 3 w' w.heap.size (fun _ => True) v0_ r1 ∧ Below w.heap.size w w' := by
 have hu24 := Try.underlying24
 have HR0_1 := Aside0.mk hr0_1
 have HC0_1 := Aside0.mk hc0_1
 clear hr0_1 hc0_1
 have HR1 := Aside0.mk hr1
 have HC1 := Aside0.mk hc1
 clear hr1 hc1
 have HB := Aside0.mk (Below.refl w.heap.size w)
 have H : ((tollbarref4_GraphMay.f k a0_0 l0_1).bind fun t398 => (if t398 = true then (tollbarref4_Loads.j0 k l1 (decide ((l1.length : Int) > 16)) a0_0 l0_1) else (tollbarref4_Loads.j0 k l1 true a0_0 l0_1))) = some (r1, r2) := h
 clear h
 have HC3 := Aside0.mk H
 clear H
 go_enter Try.func15, Try.ntmps15
 go_upto_region 1 with (first | ((with_reducible refine gate_dst (N := 2) rfl ?_); (try (refine gate_guard (by rfl) ?_; dsimp only)); refine box_event ?hg (N := 2) ?hd (cs := #[.int .i64 a0_0, .slice A0_1 l0_1.length c0_1]) (t := 24) ?hr ?_; (case hd => rfl); (case hg => rfl); (case hr => first | (go_simp; done) | (go_simp; rfl)); intro gb397 hg w4 hbox hb; have n0_ := Aside0.mk (below_step (by repeat (first | (with_reducible first | exact HB.out | apply below_alloc | apply pw_below_drewN | apply below_drew1) | exact HB.out)) hb); have n1_ := Aside0.mk (hbox); have n2_ := Aside0.mk ((by rw [hg]; exact (below_size (by repeat (first | (with_reducible first | exact HB.out | apply below_alloc | apply pw_below_drewN | apply below_drew1) | exact HB.out))) : w.heap.size ≤ gb397)); have n3_ := Aside0.mk ((by rw [hg]; exact (below_size (by repeat (first | (with_reducible first | exact HB.out | apply below_alloc | apply pw_below_drewN | apply below_drew1) | exact HB.out))) : w.heap.size ≤ gb397)); clear HB; have HB := n0_; have BK397 := n1_; have GW397 := n2_; have GE397 := n3_; clear n0_ n1_ n2_ n3_; clear hb hbox hg))
 (try simp only [Act.put, List.setIfInBounds_toArray, List.set_cons_zero, List.set_cons_succ])
 go_cut [18] (fun v18 wc => ∃ (kq : Nat) (x18_2 : Bool), v18 = .bool x18_2 ∧ Aside0 (tollbarref4_Loads.j0 kq l1 x18_2 a0_0 l0_1 = some (r1, r2)) ∧ Aside0 (kq ≤ k) ∧ Aside0 (wc.heap[gb397]? = some (.cells #[.int .i64 a0_0, (.slice A0_1 l0_1.length c0_1)] 24 (0, 0))) ∧ Aside0 (Below w.heap.size w wc))
 case first =>
  have H := HC3.out
  clear HC3
  replace H := Option.bind_eq_some_iff.mp H
  obtain ⟨t398, A50, H⟩ := H
  replace H : (if t398 = true then (tollbarref4_Loads.j0 k l1 (decide ((l1.length : Int) > 16)) a0_0 l0_1) else (tollbarref4_Loads.j0 k l1 true a0_0 l0_1)) = some (r1, r2) := H
  have A5 := Aside0.mk A50
  clear A50
  by_cases c6 : t398 = true
  ·
   subst c6
   have H1 : (tollbarref4_Loads.j0 k l1 (decide ((l1.length : Int) > 16)) a0_0 l0_1) = some (r1, r2) := by rw [if_pos rfl] at H; exact H
   clear H
   have H := H1
   clear H1
   have H' := Aside0.mk H
   clear H
   have hcz7_0 : w4.cell? ⟨gb397, 0, none⟩ = some (.int .i64 a0_0) := (blk_cell BK397.out 0).trans rfl
   have hcz7_1 : w4.cell? ⟨gb397, 1, none⟩ = some (.slice A0_1 l0_1.length c0_1) := (blk_cell BK397.out 1).trans rfl
   have hfz7_0 := blk_frozen BK397.out 0
   have hfz7_1 := blk_frozen BK397.out 1
   go_wp2_with (first | ((with_reducible refine gate_callee (f := 29) rfl ?_); refine goesL_ (some 12) rfl rfl Try.func29 (by kernel_rfl) rfl #[.agg #[.int .i64 a0_0, .slice A0_1 l0_1.length c0_1]] rfl (by (try simp only [List.map_toArray, List.map_cons, List.map_nil]); first | done | rfl | (simp only [List.length_drop, List.length_take]; rfl)) ?_; (with_reducible refine (tollbarref4_GraphMay.calls k a0_0 _ _ l0_1 true _ ?side1 ?side2 A5.out).mono ?_); (case side1 => repeat (first | exact (Kd.C_below HR0_1.out HB.out) | (with_reducible refine Kd.C_alloc ?_ _) | (with_reducible refine Kd.C_drewN ?_ _) | (with_reducible refine Kd.C_drew ?_))); (case side2 => exact HC0_1.out); rintro e w8 ⟨rfl, hb⟩; refine ⟨_, rfl, ?_⟩; have n0_ := Aside0.mk (blk_below (g := gb397) (o := .cells #[.int .i64 a0_0, .slice A0_1 l0_1.length c0_1] 24 (0, 0)) (by (with_reducible repeat (first | refine blk_drewN ?_ _ | refine blk_drew ?_ | refine blk_alloc ?_ _)); exact BK397.out) hb); have n1_ := Aside0.mk (below_step (by repeat (first | (with_reducible first | exact HB.out | apply below_alloc | apply pw_below_drewN | apply below_drew1 | refine below_set ?_ GE397.out) | exact HB.out)) hb); clear BK397; clear HB; have BK397 := n0_; have HB := n1_; clear n0_ n1_; (try clear hb); (try clear hb2); (try clear hk); (try clear hi)))
   go_meet
   case rel => exact ⟨_, (decide ((l1.length : Int) > 16)), (by first | rfl | (simp; done) | (simp [*]; done)), H', ⟨by first | omega | exact Nat.le_refl _⟩, ⟨by (with_reducible repeat (first | refine blk_drewN ?_ _ | refine blk_drew ?_ | refine blk_alloc ?_ _)); exact BK397.out⟩, ⟨by repeat (first | (with_reducible first | exact HB.out | apply below_alloc | apply pw_below_drewN | apply below_drew1 | refine below_set ?_ GE397.out) | exact HB.out)⟩⟩
  ·
   replace c6 := Bool.eq_false_iff.mpr c6
   subst c6
   have H1 : (tollbarref4_Loads.j0 k l1 true a0_0 l0_1) = some (r1, r2) := by rw [if_neg (show ¬ (false = true) by decide)] at H; exact H
   clear H
   have H := H1
   clear H1
   have H' := Aside0.mk H
   clear H
   have hcz9_0 : w4.cell? ⟨gb397, 0, none⟩ = some (.int .i64 a0_0) := (blk_cell BK397.out 0).trans rfl
   have hcz9_1 : w4.cell? ⟨gb397, 1, none⟩ = some (.slice A0_1 l0_1.length c0_1) := (blk_cell BK397.out 1).trans rfl
   have hfz9_0 := blk_frozen BK397.out 0
   have hfz9_1 := blk_frozen BK397.out 1
   go_wp2_with (first | ((with_reducible refine gate_callee (f := 29) rfl ?_); refine goesL_ (some 12) rfl rfl Try.func29 (by kernel_rfl) rfl #[.agg #[.int .i64 a0_0, .slice A0_1 l0_1.length c0_1]] rfl (by (try simp only [List.map_toArray, List.map_cons, List.map_nil]); first | done | rfl | (simp only [List.length_drop, List.length_take]; rfl)) ?_; (with_reducible refine (tollbarref4_GraphMay.calls k a0_0 _ _ l0_1 false _ ?side1 ?side2 A5.out).mono ?_); (case side1 => repeat (first | exact (Kd.C_below HR0_1.out HB.out) | (with_reducible refine Kd.C_alloc ?_ _) | (with_reducible refine Kd.C_drewN ?_ _) | (with_reducible refine Kd.C_drew ?_))); (case side2 => exact HC0_1.out); rintro e w10 ⟨rfl, hb⟩; refine ⟨_, rfl, ?_⟩; have n0_ := Aside0.mk (blk_below (g := gb397) (o := .cells #[.int .i64 a0_0, .slice A0_1 l0_1.length c0_1] 24 (0, 0)) (by (with_reducible repeat (first | refine blk_drewN ?_ _ | refine blk_drew ?_ | refine blk_alloc ?_ _)); exact BK397.out) hb); have n1_ := Aside0.mk (below_step (by repeat (first | (with_reducible first | exact HB.out | apply below_alloc | apply pw_below_drewN | apply below_drew1 | refine below_set ?_ GE397.out) | exact HB.out)) hb); clear BK397; clear HB; have BK397 := n0_; have HB := n1_; clear n0_ n1_; (try clear hb); (try clear hb2); (try clear hk); (try clear hi)))
   go_meet
   case rel => exact ⟨_, (true), (by first | rfl | (simp; done) | (simp [*]; done)), H', ⟨by first | omega | exact Nat.le_refl _⟩, ⟨by (with_reducible repeat (first | refine blk_drewN ?_ _ | refine blk_drew ?_ | refine blk_alloc ?_ _)); exact BK397.out⟩, ⟨by repeat (first | (with_reducible first | exact HB.out | apply below_alloc | apply pw_below_drewN | apply below_drew1 | refine below_set ?_ GE397.out) | exact HB.out)⟩⟩
 case rest =>
  clear HC3
  try clear c1
  try clear c2
  try clear p2
  try clear c6
  try clear hcz7_0
  try clear hcz7_1
  try clear hcz9_0
  try clear hcz9_1
  try clear hfz7_0
  try clear hfz7_1
  try clear hfz9_0
  try clear hfz9_1
  obtain ⟨kq, x18_2, rfl, HA, HJ2, BK397, HB⟩ := hcut
  cases kq with
  | zero => exact absurd HA.out (by simp [tollbarref4_Loads.j0])
  | succ kj2 =>
   have H := HA.out
   clear HA
   simp only [tollbarref4_Loads.j0] at H
   by_cases c11 : x18_2 = true
   ·
    subst c11
    have H1 : (some (([] : List Int), 700)) = some (r1, r2) := by rw [if_pos rfl] at H; exact H
    clear H
    have H := H1
    clear H1
    simp only [Option.some.injEq, Prod.mk.injEq] at H
    obtain ⟨rfl, rfl⟩ := H
    go_wp2
    go_ret2
    exact ⟨_, by first | rfl | (simp [errW_none, errW_some] <;> rfl) | (simp [*, errW_none, errW_some] <;> rfl), by first | exact Kd.R_nil _ _ _ _ _ | exact Kd.N_nil _ _ _ _ _ | exact Kd.V_nil _ _ _ _ _ | exact Kd.Q_nil _ _ _ _ _ | exact Kd.S_nil _ _ _ _ _, by repeat (first | (with_reducible first | exact HB.out | apply below_alloc | apply pw_below_drewN | apply below_drew1 | refine below_set ?_ GE397.out) | exact HB.out)⟩
   ·
    replace c11 := Bool.eq_false_iff.mpr c11
    subst c11
    have H1 : (tollbarref4_Loads.l0 kj2 l1 0 a0_0 l0_1) = some (r1, r2) := by rw [if_neg (show ¬ (false = true) by decide)] at H; exact H
    clear H
    have H := H1
    clear H1
    have H' := Aside0.mk H
    clear H
    go_wp2
    go_loopg [6] kj2 (fun kq v6 w' => ∃ (x6_2 : Int), v6 = .int .i64 x6_2 ∧ Aside0 (tollbarref4_Loads.l0 kq l1 x6_2 a0_0 l0_1 = some (r1, r2)) ∧ Aside0 (kq ≤ kj2) ∧ Aside0 (w'.heap[gb397]? = some (.cells #[.int .i64 a0_0, (.slice A0_1 l0_1.length c0_1)] 24 (0, 0))) ∧ Aside0 (Below w.heap.size w w'))
    case atStart => exact ⟨(0), (by first | rfl | (simp; done) | (simp [*]; done)), H', ⟨Nat.le_refl _⟩, ⟨by (with_reducible repeat (first | refine blk_drewN ?_ _ | refine blk_drew ?_ | refine blk_alloc ?_ _)); exact BK397.out⟩, ⟨by repeat (first | (with_reducible first | exact HB.out | apply below_alloc | apply pw_below_drewN | apply below_drew1 | refine below_set ?_ GE397.out) | exact HB.out)⟩⟩
    case round =>
     clear H'
     try clear c1
     try clear c2
     try clear p2
     try clear c6
     try clear c11
     try clear hcz7_0
     try clear hcz7_1
     try clear hcz9_0
     try clear hcz9_1
     try clear hfz7_0
     try clear hfz7_1
     try clear hfz9_0
     try clear hfz9_1
     try clear p2
     obtain ⟨x6_2, rfl, HA, HK2, BK397, HB⟩ := hrel
     cases gk with
     | zero => exact absurd HA.out (by simp [tollbarref4_Loads.l0])
     | succ k2 =>
      have H := HA.out
      clear HA
      simp only [tollbarref4_Loads.l0] at H
      by_cases c12 : x6_2 < (l1.length : Int)
      ·
       rw [if_pos c12] at H
       have c12b0 : decide (x6_2 < (l1.length : Int)) = true := decide_eq_true c12
       clear c12
       by_cases c13 : 0 ≤ x6_2
       ·
        rw [if_pos c13] at H
        have c13b0 : decide (0 ≤ x6_2) = true := decide_eq_true c13
        clear c13
        replace H := Option.bind_eq_some_iff.mp H
        obtain ⟨t400, A140, H⟩ := H
        replace H : (if t400 = true then ((tollbarref4_links.f k2 a0_0 l0_1 ((rd_T48 l1 x6_2).f1)).bind fun t402 => (if t402 = true then (tollbarref4_Loads.l0 k2 l1 (wrap64 (x6_2 + 1)) a0_0 l0_1) else (some (([] : List Int), 700)))) else (some (([] : List Int), 700))) = some (r1, r2) := H
        have A14 := Aside0.mk A140
        clear A140
        by_cases c15 : t400 = true
        ·
         subst c15
         have H1 : ((tollbarref4_links.f k2 a0_0 l0_1 ((rd_T48 l1 x6_2).f1)).bind fun t402 => (if t402 = true then (tollbarref4_Loads.l0 k2 l1 (wrap64 (x6_2 + 1)) a0_0 l0_1) else (some (([] : List Int), 700)))) = some (r1, r2) := by rw [if_pos rfl] at H; exact H
         clear H
         have H := H1
         clear H1
         replace H := Option.bind_eq_some_iff.mp H
         obtain ⟨t402, A160, H⟩ := H
         replace H : (if t402 = true then (tollbarref4_Loads.l0 k2 l1 (wrap64 (x6_2 + 1)) a0_0 l0_1) else (some (([] : List Int), 700))) = some (r1, r2) := H
         have A16 := Aside0.mk A160
         clear A160
         by_cases c17 : t402 = true
         ·
          subst c17
          have H1 : (tollbarref4_Loads.l0 k2 l1 (wrap64 (x6_2 + 1)) a0_0 l0_1) = some (r1, r2) := by rw [if_pos rfl] at H; exact H
          clear H
          have H := H1
          clear H1
          have H' := Aside0.mk H
          clear H
          try go_wp2
          have n0_ := Aside0.mk (blk_drew BK397.out)
          have n1_ := Aside0.mk (below_drew1 HB.out)
          clear BK397
          clear HB
          have BK397 := n0_
          have HB := n1_
          clear n0_ n1_
          have p399 : 0 ≤ (x6_2 : Int) := of_decide_eq_true (by first | (with_reducible assumption) | assumption)
          have q399 : x6_2 < (l1.length : Int) := of_decide_eq_true (by first | (with_reducible assumption) | assumption)
          obtain ⟨ad399, A399_1, c399_1, e399, hx399_0, hx399_1, hl399_1, hi399_1⟩ := at_T48 HR1.out x6_2 p399 q399
          have hw399_1 := hx399_1
          have hw399_0 := hx399_0
          cases e399
          replace hx399_0 := (HB.out.cell (World.block_lt_of_cell? w _ hx399_0)).trans hx399_0
          replace hx399_1 := (HB.out.cell (World.block_lt_of_cell? w _ hx399_1)).trans hx399_1
          have HR399_1 := Aside0.mk hi399_1
          have HC399_1 := Aside0.mk hl399_1
          clear hi399_1 hl399_1
          replace p399 := eq_true p399
          replace q399 := eq_true q399
          have p401 : 0 ≤ (x6_2 : Int) := of_decide_eq_true (by first | (with_reducible assumption) | assumption)
          have q401 : x6_2 < (l1.length : Int) := of_decide_eq_true (by first | (with_reducible assumption) | assumption)
          obtain ⟨ad401, A401_1, c401_1, e401, hx401_0, hx401_1, hl401_1, hi401_1⟩ := at_T48 HR1.out x6_2 p401 q401
          have hw401_1 := hx401_1
          have hw401_0 := hx401_0
          obtain rfl : ad399 = ad401 := (by injection e401)
          replace hx401_0 := (HB.out.cell (World.block_lt_of_cell? w _ hx401_0)).trans hx401_0
          replace hx401_1 := (HB.out.cell (World.block_lt_of_cell? w _ hx401_1)).trans hx401_1
          have HR401_1 := Aside0.mk hi401_1
          have HC401_1 := Aside0.mk hl401_1
          clear hi401_1 hl401_1
          replace p401 := eq_true p401
          replace q401 := eq_true q401
          have ea_ := Option.some.inj (hx399_1.symm.trans hx401_1)
          injection ea_ with ea_ en_ ec_
          subst ea_
          subst ec_
          clear en_
          refine start_ (n := 17) (S := fun w' => w'.cell? ⟨gb397, 0, none⟩ = some (.int .i64 a0_0) ∧ w'.cell? ⟨gb397, 1, none⟩ = some (.slice A0_1 l0_1.length c0_1) ∧ w'.cell? (ad399.add ((x6_2).toNat * 2)) = some (.int .i64 ((rd_T48 l1 x6_2).f0)) ∧ w'.cell? ⟨(ad399.add ((x6_2).toNat * 2)).block, (ad399.add ((x6_2).toNat * 2)).off + 1, none⟩ = some (.slice A399_1 ((rd_T48 l1 x6_2).f1).length c399_1) ∧ w'.cell? (ad399.add ((x6_2).toNat * 2)) = some (.int .i64 ((rd_T48 l1 x6_2).f0)) ∧ w'.cell? ⟨(ad399.add ((x6_2).toNat * 2)).block, (ad399.add ((x6_2).toNat * 2)).off + 1, none⟩ = some (.slice A399_1 ((rd_T48 l1 x6_2).f1).length c399_1)) (ds := []) (mk 17 0) (by kernel_rfl) rfl (by kernel_rfl) ⟨(blk_cell BK397.out 0).trans rfl, (blk_cell BK397.out 1).trans rfl, ((HB.out.cell (World.block_lt_of_cell? w _ hw399_0)).trans hw399_0), ((HB.out.cell (World.block_lt_of_cell? w _ hw399_1)).trans hw399_1), ((HB.out.cell (World.block_lt_of_cell? w _ hw401_0)).trans hw401_0), ((HB.out.cell (World.block_lt_of_cell? w _ hw401_1)).trans hw401_1)⟩ (fun hHeld => ?_); refine with_tabW tollbarref4_Loads.tab6 tollbarref4_Loads.bits6 (fun HT_ HW_ => ?_)
          generalize wr.drew = w18 at BK397 HB HR399_1 HR401_1 hx399_0 hx399_1 hx401_0 hx401_1 hHeld ⊢
          refine pu 0 25 (mk 17 1) HT_ ?_
          refine pu 1 26 (mk 17 3) HT_ ?_
          refine pu 2 27 (mk 17 7) HT_ ?_
          refine pu 3 28 (mk 17 15) HT_ ?_
          refine ta 4 29 (mk 17 31) rfl rfl HT_ HW_ hHeld (Or.inl ⟨by rfl, by rintro w' ⟨s0, s1, s2, s3, s4, s5⟩; go_simp; with_reducible rfl⟩) ?_
          refine one_ (i := 5) (N := some 30) (mk 17 63) rfl rfl (one_of HT_.out (by kernel_rfl)) (by decide) (fun K hK => ?_)
          refine goes_ Try.func31 (by kernel_rfl) rfl #[.int .i64 ((rd_T48 l1 x6_2).f0)] (by rfl) rfl rfl (by (try simp only [List.map_toArray, List.map_cons, List.map_nil]); first | done | rfl | (simp only [List.length_drop, List.length_take]; rfl)) ?_
          with_reducible refine (tollbarref1_Rate.calls ((rd_T48 l1 x6_2).f0) true _ A14.out).mono ?_
          rintro e w' ⟨rfl, ⟨nd, rfl⟩⟩
          refine ⟨_, rfl, ?_⟩
          refine hK.out _ _ ⟨(blk_cell BK397.out 0).trans rfl, (blk_cell BK397.out 1).trans rfl, ((HB.out.cell (World.block_lt_of_cell? w _ hw399_0)).trans hw399_0), ((HB.out.cell (World.block_lt_of_cell? w _ hw399_1)).trans hw399_1), ((HB.out.cell (World.block_lt_of_cell? w _ hw401_0)).trans hw401_0), ((HB.out.cell (World.block_lt_of_cell? w _ hw401_1)).trans hw401_1)⟩ (fun hHeld => ?_)
          clear hK K
          refine nq 30 ?_
          refine pu 6 31 (mk 17 127) HT_ ?_
          refine pu 7 32 (mk 17 255) HT_ ?_
          refine pu 9 34 (mk 17 767) HT_ ?_
          refine pu 10 35 (mk 17 1791) HT_ ?_
          refine pu 11 36 (mk 17 3839) HT_ ?_
          refine pu 12 37 (mk 17 7935) HT_ ?_
          refine ta 8 33 (mk 17 8191) rfl rfl HT_ HW_ hHeld (Or.inl ⟨by rfl, by rintro w' ⟨s0, s1, s2, s3, s4, s5⟩; go_simp; with_reducible rfl⟩) ?_
          refine ta 13 38 (mk 17 16383) rfl rfl HT_ HW_ hHeld (Or.inl ⟨by rfl, by rintro w' ⟨s0, s1, s2, s3, s4, s5⟩; go_simp; with_reducible rfl⟩) ?_
          refine one_ (i := 14) (N := some 39) (mk 17 32767) rfl rfl (one_of HT_.out (by kernel_rfl)) (by decide) (fun K hK => ?_)
          refine goes_ Try.func32 (by kernel_rfl) rfl #[.agg #[.int .i64 a0_0, .slice A0_1 l0_1.length c0_1], .slice A399_1 ((rd_T48 l1 x6_2).f1).length c399_1] (by rfl) rfl rfl (by (try simp only [List.map_toArray, List.map_cons, List.map_nil]); first | done | rfl | (simp only [List.length_drop, List.length_take]; rfl)) ?_
          with_reducible refine (tollbarref4_links.calls k2 a0_0 _ _ l0_1 _ _ ((rd_T48 l1 x6_2).f1) true _ ?side1 ?side2 ?side3 ?side4 A16.out).mono ?_
          (case side1 => repeat (first | exact (Kd.C_below HR0_1.out (by repeat (first | (with_reducible first | exact HB.out | apply below_alloc | apply pw_below_drewN | apply below_drew1 | refine below_set ?_ GE397.out) | exact HB.out))) | (with_reducible refine Kd.C_alloc ?_ _) | (with_reducible refine Kd.C_drewN ?_ _) | (with_reducible refine Kd.C_drew ?_)))
          (case side2 => exact HC0_1.out)
          (case side3 => repeat (first | exact (Kd.C_below HR401_1.out (by repeat (first | (with_reducible first | exact HB.out | apply below_alloc | apply pw_below_drewN | apply below_drew1 | refine below_set ?_ GE397.out) | exact HB.out))) | (with_reducible refine Kd.C_alloc ?_ _) | (with_reducible refine Kd.C_drewN ?_ _) | (with_reducible refine Kd.C_drew ?_)))
          (case side4 => exact HC401_1.out)
          rintro e w19 ⟨rfl, hb⟩
          refine ⟨_, rfl, ?_⟩
          have n0_ := Aside0.mk (blk_below (g := gb397) (o := .cells #[.int .i64 a0_0, .slice A0_1 l0_1.length c0_1] 24 (0, 0)) (by (with_reducible repeat (first | refine blk_drewN ?_ _ | refine blk_drew ?_ | refine blk_alloc ?_ _)); exact BK397.out) hb)
          have n1_ := Aside0.mk (below_step (by repeat (first | (with_reducible first | exact HB.out | apply below_alloc | apply pw_below_drewN | apply below_drew1 | refine below_set ?_ GE397.out) | exact HB.out)) hb)
          clear BK397
          clear HB
          have BK397 := n0_
          have HB := n1_
          clear n0_ n1_
          (try clear hb)
          (try clear hb2)
          (try clear hk)
          (try clear hi)
          refine hK.out _ _ ⟨(blk_cell BK397.out 0).trans rfl, (blk_cell BK397.out 1).trans rfl, ((HB.out.cell (World.block_lt_of_cell? w _ hw399_0)).trans hw399_0), ((HB.out.cell (World.block_lt_of_cell? w _ hw399_1)).trans hw399_1), ((HB.out.cell (World.block_lt_of_cell? w _ hw401_0)).trans hw401_0), ((HB.out.cell (World.block_lt_of_cell? w _ hw401_1)).trans hw401_1)⟩ (fun hHeld => ?_)
          clear hK K
          refine nq 39 ?_
          refine pu 15 40 (mk 17 65535) HT_ ?_
          refine pu 16 41 (mk 17 131071) HT_ ?_
          refine done_ (done_of HT_.out (by kernel_rfl)) ?_
          try go_wp2
          go_roundg k2
          case measure => have := HJ2.out; have := HK2.out; omega
          case rel => exact ⟨(wrap64 (x6_2 + 1)), (by first | rfl | (simp; done) | (simp [*]; done)), H', ⟨by have := HJ2.out; have := HK2.out; omega⟩, ⟨by (with_reducible repeat (first | refine blk_drewN ?_ _ | refine blk_drew ?_ | refine blk_alloc ?_ _)); exact BK397.out⟩, ⟨by repeat (first | (with_reducible first | exact HB.out | apply below_alloc | apply pw_below_drewN | apply below_drew1 | refine below_set ?_ GE397.out) | exact HB.out)⟩⟩
         ·
          replace c17 := Bool.eq_false_iff.mpr c17
          subst c17
          have H1 : (some (([] : List Int), 700)) = some (r1, r2) := by rw [if_neg (show ¬ (false = true) by decide)] at H; exact H
          clear H
          have H := H1
          clear H1
          simp only [Option.some.injEq, Prod.mk.injEq] at H
          obtain ⟨rfl, rfl⟩ := H
          try go_wp2
          have n0_ := Aside0.mk (blk_drew BK397.out)
          have n1_ := Aside0.mk (below_drew1 HB.out)
          clear BK397
          clear HB
          have BK397 := n0_
          have HB := n1_
          clear n0_ n1_
          have p399 : 0 ≤ (x6_2 : Int) := of_decide_eq_true (by first | (with_reducible assumption) | assumption)
          have q399 : x6_2 < (l1.length : Int) := of_decide_eq_true (by first | (with_reducible assumption) | assumption)
          obtain ⟨ad399, A399_1, c399_1, e399, hx399_0, hx399_1, hl399_1, hi399_1⟩ := at_T48 HR1.out x6_2 p399 q399
          have hw399_1 := hx399_1
          have hw399_0 := hx399_0
          cases e399
          replace hx399_0 := (HB.out.cell (World.block_lt_of_cell? w _ hx399_0)).trans hx399_0
          replace hx399_1 := (HB.out.cell (World.block_lt_of_cell? w _ hx399_1)).trans hx399_1
          have HR399_1 := Aside0.mk hi399_1
          have HC399_1 := Aside0.mk hl399_1
          clear hi399_1 hl399_1
          replace p399 := eq_true p399
          replace q399 := eq_true q399
          have p401 : 0 ≤ (x6_2 : Int) := of_decide_eq_true (by first | (with_reducible assumption) | assumption)
          have q401 : x6_2 < (l1.length : Int) := of_decide_eq_true (by first | (with_reducible assumption) | assumption)
          obtain ⟨ad401, A401_1, c401_1, e401, hx401_0, hx401_1, hl401_1, hi401_1⟩ := at_T48 HR1.out x6_2 p401 q401
          have hw401_1 := hx401_1
          have hw401_0 := hx401_0
          obtain rfl : ad399 = ad401 := (by injection e401)
          replace hx401_0 := (HB.out.cell (World.block_lt_of_cell? w _ hx401_0)).trans hx401_0
          replace hx401_1 := (HB.out.cell (World.block_lt_of_cell? w _ hx401_1)).trans hx401_1
          have HR401_1 := Aside0.mk hi401_1
          have HC401_1 := Aside0.mk hl401_1
          clear hi401_1 hl401_1
          replace p401 := eq_true p401
          replace q401 := eq_true q401
          have ea_ := Option.some.inj (hx399_1.symm.trans hx401_1)
          injection ea_ with ea_ en_ ec_
          subst ea_
          subst ec_
          clear en_
          refine start_ (n := 17) (S := fun w' => w'.cell? ⟨gb397, 0, none⟩ = some (.int .i64 a0_0) ∧ w'.cell? ⟨gb397, 1, none⟩ = some (.slice A0_1 l0_1.length c0_1) ∧ w'.cell? (ad399.add ((x6_2).toNat * 2)) = some (.int .i64 ((rd_T48 l1 x6_2).f0)) ∧ w'.cell? ⟨(ad399.add ((x6_2).toNat * 2)).block, (ad399.add ((x6_2).toNat * 2)).off + 1, none⟩ = some (.slice A399_1 ((rd_T48 l1 x6_2).f1).length c399_1) ∧ w'.cell? (ad399.add ((x6_2).toNat * 2)) = some (.int .i64 ((rd_T48 l1 x6_2).f0)) ∧ w'.cell? ⟨(ad399.add ((x6_2).toNat * 2)).block, (ad399.add ((x6_2).toNat * 2)).off + 1, none⟩ = some (.slice A399_1 ((rd_T48 l1 x6_2).f1).length c399_1)) (ds := []) (mk 17 0) (by kernel_rfl) rfl (by kernel_rfl) ⟨(blk_cell BK397.out 0).trans rfl, (blk_cell BK397.out 1).trans rfl, ((HB.out.cell (World.block_lt_of_cell? w _ hw399_0)).trans hw399_0), ((HB.out.cell (World.block_lt_of_cell? w _ hw399_1)).trans hw399_1), ((HB.out.cell (World.block_lt_of_cell? w _ hw401_0)).trans hw401_0), ((HB.out.cell (World.block_lt_of_cell? w _ hw401_1)).trans hw401_1)⟩ (fun hHeld => ?_); refine with_tabW tollbarref4_Loads.tab6 tollbarref4_Loads.bits6 (fun HT_ HW_ => ?_)
          generalize wr.drew = w20 at BK397 HB HR399_1 HR401_1 hx399_0 hx399_1 hx401_0 hx401_1 hHeld ⊢
          refine pu 0 25 (mk 17 1) HT_ ?_
          refine pu 1 26 (mk 17 3) HT_ ?_
          refine pu 2 27 (mk 17 7) HT_ ?_
          refine pu 3 28 (mk 17 15) HT_ ?_
          refine ta 4 29 (mk 17 31) rfl rfl HT_ HW_ hHeld (Or.inl ⟨by rfl, by rintro w' ⟨s0, s1, s2, s3, s4, s5⟩; go_simp; with_reducible rfl⟩) ?_
          refine one_ (i := 5) (N := some 30) (mk 17 63) rfl rfl (one_of HT_.out (by kernel_rfl)) (by decide) (fun K hK => ?_)
          refine goes_ Try.func31 (by kernel_rfl) rfl #[.int .i64 ((rd_T48 l1 x6_2).f0)] (by rfl) rfl rfl (by (try simp only [List.map_toArray, List.map_cons, List.map_nil]); first | done | rfl | (simp only [List.length_drop, List.length_take]; rfl)) ?_
          with_reducible refine (tollbarref1_Rate.calls ((rd_T48 l1 x6_2).f0) true _ A14.out).mono ?_
          rintro e w' ⟨rfl, ⟨nd, rfl⟩⟩
          refine ⟨_, rfl, ?_⟩
          refine hK.out _ _ ⟨(blk_cell BK397.out 0).trans rfl, (blk_cell BK397.out 1).trans rfl, ((HB.out.cell (World.block_lt_of_cell? w _ hw399_0)).trans hw399_0), ((HB.out.cell (World.block_lt_of_cell? w _ hw399_1)).trans hw399_1), ((HB.out.cell (World.block_lt_of_cell? w _ hw401_0)).trans hw401_0), ((HB.out.cell (World.block_lt_of_cell? w _ hw401_1)).trans hw401_1)⟩ (fun hHeld => ?_)
          clear hK K
          refine nq 30 ?_
          refine pu 6 31 (mk 17 127) HT_ ?_
          refine pu 7 32 (mk 17 255) HT_ ?_
          refine pu 9 34 (mk 17 767) HT_ ?_
          refine pu 10 35 (mk 17 1791) HT_ ?_
          refine pu 11 36 (mk 17 3839) HT_ ?_
          refine pu 12 37 (mk 17 7935) HT_ ?_
          refine ta 8 33 (mk 17 8191) rfl rfl HT_ HW_ hHeld (Or.inl ⟨by rfl, by rintro w' ⟨s0, s1, s2, s3, s4, s5⟩; go_simp; with_reducible rfl⟩) ?_
          refine ta 13 38 (mk 17 16383) rfl rfl HT_ HW_ hHeld (Or.inl ⟨by rfl, by rintro w' ⟨s0, s1, s2, s3, s4, s5⟩; go_simp; with_reducible rfl⟩) ?_
          refine one_ (i := 14) (N := some 39) (mk 17 32767) rfl rfl (one_of HT_.out (by kernel_rfl)) (by decide) (fun K hK => ?_)
          refine goes_ Try.func32 (by kernel_rfl) rfl #[.agg #[.int .i64 a0_0, .slice A0_1 l0_1.length c0_1], .slice A399_1 ((rd_T48 l1 x6_2).f1).length c399_1] (by rfl) rfl rfl (by (try simp only [List.map_toArray, List.map_cons, List.map_nil]); first | done | rfl | (simp only [List.length_drop, List.length_take]; rfl)) ?_
          with_reducible refine (tollbarref4_links.calls k2 a0_0 _ _ l0_1 _ _ ((rd_T48 l1 x6_2).f1) false _ ?side1 ?side2 ?side3 ?side4 A16.out).mono ?_
          (case side1 => repeat (first | exact (Kd.C_below HR0_1.out (by repeat (first | (with_reducible first | exact HB.out | apply below_alloc | apply pw_below_drewN | apply below_drew1 | refine below_set ?_ GE397.out) | exact HB.out))) | (with_reducible refine Kd.C_alloc ?_ _) | (with_reducible refine Kd.C_drewN ?_ _) | (with_reducible refine Kd.C_drew ?_)))
          (case side2 => exact HC0_1.out)
          (case side3 => repeat (first | exact (Kd.C_below HR401_1.out (by repeat (first | (with_reducible first | exact HB.out | apply below_alloc | apply pw_below_drewN | apply below_drew1 | refine below_set ?_ GE397.out) | exact HB.out))) | (with_reducible refine Kd.C_alloc ?_ _) | (with_reducible refine Kd.C_drewN ?_ _) | (with_reducible refine Kd.C_drew ?_)))
          (case side4 => exact HC401_1.out)
          rintro e w21 ⟨rfl, hb⟩
          refine ⟨_, rfl, ?_⟩
          have n0_ := Aside0.mk (blk_below (g := gb397) (o := .cells #[.int .i64 a0_0, .slice A0_1 l0_1.length c0_1] 24 (0, 0)) (by (with_reducible repeat (first | refine blk_drewN ?_ _ | refine blk_drew ?_ | refine blk_alloc ?_ _)); exact BK397.out) hb)
          have n1_ := Aside0.mk (below_step (by repeat (first | (with_reducible first | exact HB.out | apply below_alloc | apply pw_below_drewN | apply below_drew1 | refine below_set ?_ GE397.out) | exact HB.out)) hb)
          clear BK397
          clear HB
          have BK397 := n0_
          have HB := n1_
          clear n0_ n1_
          (try clear hb)
          (try clear hb2)
          (try clear hk)
          (try clear hi)
          refine hK.out _ _ ⟨(blk_cell BK397.out 0).trans rfl, (blk_cell BK397.out 1).trans rfl, ((HB.out.cell (World.block_lt_of_cell? w _ hw399_0)).trans hw399_0), ((HB.out.cell (World.block_lt_of_cell? w _ hw399_1)).trans hw399_1), ((HB.out.cell (World.block_lt_of_cell? w _ hw401_0)).trans hw401_0), ((HB.out.cell (World.block_lt_of_cell? w _ hw401_1)).trans hw401_1)⟩ (fun hHeld => ?_)
          clear hK K
          refine nq 39 ?_
          refine pu 15 40 (mk 17 65535) HT_ ?_
          refine pu 16 41 (mk 17 131071) HT_ ?_
          refine done_ (done_of HT_.out (by kernel_rfl)) ?_
          try go_wp2
          go_ret2
          exact ⟨_, by first | rfl | (simp [errW_none, errW_some] <;> rfl) | (simp [*, errW_none, errW_some] <;> rfl), by first | exact Kd.R_nil _ _ _ _ _ | exact Kd.N_nil _ _ _ _ _ | exact Kd.V_nil _ _ _ _ _ | exact Kd.Q_nil _ _ _ _ _ | exact Kd.S_nil _ _ _ _ _, by repeat (first | (with_reducible first | exact HB.out | apply below_alloc | apply pw_below_drewN | apply below_drew1 | refine below_set ?_ GE397.out) | exact HB.out)⟩
        ·
         replace c15 := Bool.eq_false_iff.mpr c15
         subst c15
         have H1 : (some (([] : List Int), 700)) = some (r1, r2) := by rw [if_neg (show ¬ (false = true) by decide)] at H; exact H
         clear H
         have H := H1
         clear H1
         simp only [Option.some.injEq, Prod.mk.injEq] at H
         obtain ⟨rfl, rfl⟩ := H
         try go_wp2
         have n0_ := Aside0.mk (blk_drew BK397.out)
         have n1_ := Aside0.mk (below_drew1 HB.out)
         clear BK397
         clear HB
         have BK397 := n0_
         have HB := n1_
         clear n0_ n1_
         have p399 : 0 ≤ (x6_2 : Int) := of_decide_eq_true (by first | (with_reducible assumption) | assumption)
         have q399 : x6_2 < (l1.length : Int) := of_decide_eq_true (by first | (with_reducible assumption) | assumption)
         obtain ⟨ad399, A399_1, c399_1, e399, hx399_0, hx399_1, hl399_1, hi399_1⟩ := at_T48 HR1.out x6_2 p399 q399
         have hw399_1 := hx399_1
         have hw399_0 := hx399_0
         cases e399
         replace hx399_0 := (HB.out.cell (World.block_lt_of_cell? w _ hx399_0)).trans hx399_0
         replace hx399_1 := (HB.out.cell (World.block_lt_of_cell? w _ hx399_1)).trans hx399_1
         have HR399_1 := Aside0.mk hi399_1
         have HC399_1 := Aside0.mk hl399_1
         clear hi399_1 hl399_1
         replace p399 := eq_true p399
         replace q399 := eq_true q399
         refine start_ (n := 17) (S := fun w' => w'.cell? (ad399.add ((x6_2).toNat * 2)) = some (.int .i64 ((rd_T48 l1 x6_2).f0)) ∧ w'.cell? ⟨(ad399.add ((x6_2).toNat * 2)).block, (ad399.add ((x6_2).toNat * 2)).off + 1, none⟩ = some (.slice A399_1 ((rd_T48 l1 x6_2).f1).length c399_1)) (ds := []) (mk 17 0) (by kernel_rfl) rfl (by kernel_rfl) ⟨((HB.out.cell (World.block_lt_of_cell? w _ hw399_0)).trans hw399_0), ((HB.out.cell (World.block_lt_of_cell? w _ hw399_1)).trans hw399_1)⟩ (fun hHeld => ?_); refine with_tabW tollbarref4_Loads.tab6 tollbarref4_Loads.bits6 (fun HT_ HW_ => ?_)
         generalize wr.drew = w22 at BK397 HB HR399_1 hx399_0 hx399_1 hHeld ⊢
         refine pu 0 25 (mk 17 1) HT_ ?_
         refine pu 1 26 (mk 17 3) HT_ ?_
         refine pu 2 27 (mk 17 7) HT_ ?_
         refine pu 3 28 (mk 17 15) HT_ ?_
         refine ta 4 29 (mk 17 31) rfl rfl HT_ HW_ hHeld (Or.inl ⟨by rfl, by rintro w' ⟨s0, s1⟩; go_simp; with_reducible rfl⟩) ?_
         refine one_ (i := 5) (N := some 30) (mk 17 63) rfl rfl (one_of HT_.out (by kernel_rfl)) (by decide) (fun K hK => ?_)
         refine goes_ Try.func31 (by kernel_rfl) rfl #[.int .i64 ((rd_T48 l1 x6_2).f0)] (by rfl) rfl rfl (by (try simp only [List.map_toArray, List.map_cons, List.map_nil]); first | done | rfl | (simp only [List.length_drop, List.length_take]; rfl)) ?_
         with_reducible refine (tollbarref1_Rate.calls ((rd_T48 l1 x6_2).f0) false _ A14.out).mono ?_
         rintro e w' ⟨rfl, ⟨nd, rfl⟩⟩
         refine ⟨_, rfl, ?_⟩
         refine hK.out _ _ ⟨((HB.out.cell (World.block_lt_of_cell? w _ hw399_0)).trans hw399_0), ((HB.out.cell (World.block_lt_of_cell? w _ hw399_1)).trans hw399_1)⟩ (fun hHeld => ?_)
         clear hK K
         refine nq 30 ?_
         refine pu 6 31 (mk 17 127) HT_ ?_
         refine pu 7 32 (mk 17 255) HT_ ?_
         refine po 8 33 (mk 17 511) HT_ ?_
         refine po 9 34 (mk 17 1023) HT_ ?_
         refine po 10 35 (mk 17 2047) HT_ ?_
         refine po 11 36 (mk 17 4095) HT_ ?_
         refine po 12 37 (mk 17 8191) HT_ ?_
         refine po 13 38 (mk 17 16383) HT_ ?_
         refine po 14 39 (mk 17 32767) HT_ ?_
         refine po 15 40 (mk 17 65535) HT_ ?_
         refine pu 16 41 (mk 17 131071) HT_ ?_
         refine done_ (done_of HT_.out (by kernel_rfl)) ?_
         try go_wp2
         go_ret2
         exact ⟨_, by first | rfl | (simp [errW_none, errW_some] <;> rfl) | (simp [*, errW_none, errW_some] <;> rfl), by first | exact Kd.R_nil _ _ _ _ _ | exact Kd.N_nil _ _ _ _ _ | exact Kd.V_nil _ _ _ _ _ | exact Kd.Q_nil _ _ _ _ _ | exact Kd.S_nil _ _ _ _ _, by repeat (first | (with_reducible first | exact HB.out | apply below_alloc | apply pw_below_drewN | apply below_drew1 | refine below_set ?_ GE397.out) | exact HB.out)⟩
       ·
        rw [if_neg c13] at H
        exact absurd H (by simp)
      ·
       rw [if_neg c12] at H
       have c12b0 : decide (x6_2 < (l1.length : Int)) = false := decide_eq_false c12
       clear c12
       by_cases c23 : 0 ≤ (l0_1.length : Int)
       ·
        rw [if_pos c23] at H
        have c23b0 := eq_true c23
        have c23b1 : decide (0 ≤ (l0_1.length : Int)) = true := decide_eq_true c23
        clear c23
        by_cases c24 : ((l0_1.length : Int) : Int).toNat ≤ 35184372088832
        ·
         rw [if_pos c24] at H
         have c24b0 := eq_true c24
         have c24b1 : decide (((l0_1.length : Int) : Int).toNat ≤ 35184372088832) = true := decide_eq_true c24
         clear c24
         obtain ⟨y403, hy403⟩ : ∃ y_ : List Int, y_ = (List.replicate ((l0_1.length : Int) : Int).toNat 0) := ⟨_, rfl⟩
         replace H : (tollbarref4_Loads.l1 k2 l1 y403 0) = some (r1, r2) := by first | (rw [hy403]; with_reducible exact H) | (have H2_ := (Option.bind_some _ _).symm.trans H; rw [hy403]; with_reducible exact H2_) | (have H2_ := (Option.bind_some _ _).symm.trans H; with_reducible exact H2_) | with_reducible exact H | (rw [hy403]; exact H) | exact H
         have Ny403 := Aside0.mk hy403
         clear hy403
         have H' := Aside0.mk H
         clear H
         have hcz25_0 : wr.cell? ⟨gb397, 0, none⟩ = some (.int .i64 a0_0) := (blk_cell BK397.out 0).trans rfl
         have hcz25_1 : wr.cell? ⟨gb397, 1, none⟩ = some (.slice A0_1 l0_1.length c0_1) := (blk_cell BK397.out 1).trans rfl
         have hfz25_0 := blk_frozen BK397.out 0
         have hfz25_1 := blk_frozen BK397.out 1
         go_wp2_with (first | ((with_reducible refine gate_dst (N := 45) rfl ?_); (try (refine gate_guard (by rfl) ?_; dsimp only)); refine Kd.R_make (Kd.int .i64) _ 3 rfl (N := 45) rfl 25 _ _ rfl (l0_1.length : Int) rfl rfl Try.underlying25 (.int .i64 0) 8 info3 rfl (by decide) (by omega) 0 (ok := fun _ => True) (okp := fun _ => True) rfl (fun _ hk => hk) trivial (of_decide_eq_true (by first | (with_reducible assumption) | assumption)) (Nat.le_trans (Nat.mul_le_mul_right _ (of_decide_eq_true (by first | (with_reducible assumption) | assumption) : (l0_1.length : Int).toNat ≤ 35184372088832)) (by omega)) (Below.refl _ _) (Nat.le_refl _) ?_; intro v404 w26 ho27 hb hg_ hnew_; clear hg_ hnew_; (first | rw [← Ny403.out] at ho27 | (simp only [Int.reduceToNat] at ho27; rw [← Ny403.out] at ho27)); have n0_ := Aside0.mk (Kd.R_lower ho27 (below_size (by repeat (first | (with_reducible first | exact HB.out | apply below_alloc | apply pw_below_drewN | apply below_drew1 | refine below_set ?_ GE397.out) | exact HB.out)))); have n1_ := Aside0.mk (blk_below (g := gb397) (o := .cells #[.int .i64 a0_0, .slice A0_1 l0_1.length c0_1] 24 (0, 0)) (by (with_reducible repeat (first | refine blk_drewN ?_ _ | refine blk_drew ?_ | refine blk_alloc ?_ _)); exact BK397.out) hb); have n2_ := Aside0.mk (below_step (by repeat (first | (with_reducible first | exact HB.out | apply below_alloc | apply pw_below_drewN | apply below_drew1 | refine below_set ?_ GE397.out) | exact HB.out)) hb); clear BK397; clear HB; have HO405 := n0_; have BK397 := n1_; have HB := n2_; clear n0_ n1_ n2_; clear hb ho27))
         go_loopg [8] k2 (fun kq v8 w' => ∃ (x7_3 : List Int) (x8_3 : Int), v8 = .int .i64 x8_3 ∧ Aside0 (tollbarref4_Loads.l1 kq l1 x7_3 x8_3 = some (r1, r2)) ∧ Aside0 (kq ≤ k2) ∧ Aside0 (Kd.R (Kd.int .i64) 3 w' w.heap.size (fun _ => True) v404 x7_3) ∧ Aside0 (w'.heap[gb397]? = some (.cells #[.int .i64 a0_0, (.slice A0_1 l0_1.length c0_1)] 24 (0, 0))) ∧ Aside0 (Below w.heap.size w w'))
         case atStart => exact ⟨(y403), (0), (by first | rfl | (simp; done) | (simp [*]; done)), H', ⟨Nat.le_refl _⟩, ⟨by (with_reducible repeat (first | apply Kd.R_alloc | apply Kd.R_drewN | apply Kd.R_drew)); exact HO405.out⟩, ⟨by (with_reducible repeat (first | refine blk_drewN ?_ _ | refine blk_drew ?_ | refine blk_alloc ?_ _)); exact BK397.out⟩, ⟨by repeat (first | (with_reducible first | exact HB.out | apply below_alloc | apply pw_below_drewN | apply below_drew1 | refine below_set ?_ GE397.out) | exact HB.out)⟩⟩
         case round =>
          clear H'
          try clear c1
          try clear c2
          try clear p2
          try clear c3
          try clear p3
          try clear q3
          try clear hx3
          try clear c4
          try clear p4
          try clear q4
          try clear hx4
          try clear p6
          try clear c12
          try clear c12b0
          try clear c13
          try clear c15
          try clear c17
          try clear c23
          try clear c23b0
          try clear c23b1
          try clear c24
          try clear c24b0
          try clear c24b1
          try clear hcz25_0
          try clear hcz25_1
          try clear hfz25_0
          try clear hfz25_1
          try clear hx399_0
          try clear hx399_1
          try clear hx401_0
          try clear hx401_1
          try clear p399
          try clear p401
          try clear q399
          try clear q401
          obtain ⟨x7_3, x8_3, rfl, HA, HK3, HO_7, BK397, HB⟩ := hrel
          cases gk with
          | zero => exact absurd HA.out (by simp [tollbarref4_Loads.l1])
          | succ k3 =>
           have H := HA.out
           clear HA
           simp only [tollbarref4_Loads.l1] at H
           by_cases c28 : x8_3 < (l1.length : Int)
           ·
            rw [if_pos c28] at H
            have c28b0 : decide (x8_3 < (l1.length : Int)) = true := decide_eq_true c28
            clear c28
            have H' := Aside0.mk H
            clear H
            go_wp2
            go_loopg [9] k3 (fun kq v9 w' => ∃ (x7_4 : List Int) (x9_4 : Int), v9 = .int .i64 x9_4 ∧ Aside0 (tollbarref4_Loads.l2 kq l1 x7_4 x8_3 x9_4 = some (r1, r2)) ∧ Aside0 (kq ≤ k3) ∧ Aside0 (Kd.R (Kd.int .i64) 3 w' w.heap.size (fun _ => True) v404 x7_4) ∧ Aside0 (w'.heap[gb397]? = some (.cells #[.int .i64 a0_0, (.slice A0_1 l0_1.length c0_1)] 24 (0, 0))) ∧ Aside0 (Below w.heap.size w w'))
            case atStart => exact ⟨(x7_3), (0), (by first | rfl | (simp; done) | (simp [*]; done)), H', ⟨Nat.le_refl _⟩, ⟨by (with_reducible repeat (first | apply Kd.R_alloc | apply Kd.R_drewN | apply Kd.R_drew)); exact HO_7.out⟩, ⟨by (with_reducible repeat (first | refine blk_drewN ?_ _ | refine blk_drew ?_ | refine blk_alloc ?_ _)); exact BK397.out⟩, ⟨by repeat (first | (with_reducible first | exact HB.out | apply below_alloc | apply pw_below_drewN | apply below_drew1 | refine below_set ?_ GE397.out) | exact HB.out)⟩⟩
            case round =>
             clear H'
             try clear c1
             try clear c2
             try clear p2
             try clear c3
             try clear p3
             try clear q3
             try clear hx3
             try clear c4
             try clear p4
             try clear q4
             try clear hx4
             try clear p6
             try clear c12
             try clear c12b0
             try clear c13
             try clear c15
             try clear c17
             try clear c23
             try clear c23b0
             try clear c23b1
             try clear c24
             try clear c24b0
             try clear c24b1
             try clear c28
             try clear c28b0
             try clear hcz25_0
             try clear hcz25_1
             try clear hfz25_0
             try clear hfz25_1
             try clear hx399_0
             try clear hx399_1
             try clear hx401_0
             try clear hx401_1
             try clear p2
             try clear p3
             try clear p399
             try clear p4
             try clear p401
             try clear p6
             try clear q3
             try clear q399
             try clear q4
             try clear q401
             obtain ⟨x7_4, x9_4, rfl, HA, HK4, HO_7, BK397, HB⟩ := hrel
             cases gk with
             | zero => exact absurd HA.out (by simp [tollbarref4_Loads.l2])
             | succ k4 =>
              have H := HA.out
              clear HA
              simp only [tollbarref4_Loads.l2] at H
              by_cases c29 : 0 ≤ x8_3
              ·
               rw [if_pos c29] at H
               have c29b0 : decide (0 ≤ x8_3) = true := decide_eq_true c29
               clear c29
               by_cases c30 : x8_3 < (l1.length : Int)
               ·
                rw [if_pos c30] at H
                have c30b0 : decide (x8_3 < (l1.length : Int)) = true := decide_eq_true c30
                clear c30
                by_cases c31 : x9_4 < (((rd_T48 l1 x8_3).f1).length : Int)
                ·
                 rw [if_pos c31] at H
                 have c31b0 : decide (x9_4 < (((rd_T48 l1 x8_3).f1).length : Int)) = true := decide_eq_true c31
                 clear c31
                 by_cases c32 : 0 ≤ x9_4
                 ·
                  rw [if_pos c32] at H
                  have c32b0 : decide (0 ≤ x9_4) = true := decide_eq_true c32
                  clear c32
                  by_cases c33 : 0 ≤ (rd ((rd_T48 l1 x8_3).f1) x9_4)
                  ·
                   rw [if_pos c33] at H
                   have c33b0 : decide (0 ≤ (rd ((rd_T48 l1 x8_3).f1) x9_4)) = true := decide_eq_true c33
                   clear c33
                   by_cases c34 : (rd ((rd_T48 l1 x8_3).f1) x9_4) < (x7_4.length : Int)
                   ·
                    rw [if_pos c34] at H
                    have c34b0 : decide ((rd ((rd_T48 l1 x8_3).f1) x9_4) < (x7_4.length : Int)) = true := decide_eq_true c34
                    clear c34
                    by_cases c35 : ((rd_T48 l1 x8_3).f0) > (wrap64 (4611686018427387904 - (rd x7_4 (rd ((rd_T48 l1 x8_3).f1) x9_4))))
                    ·
                     rw [if_pos c35] at H
                     have c35b0 : decide ((wrap64 (4611686018427387904 - (rd x7_4 (rd ((rd_T48 l1 x8_3).f1) x9_4)))) < ((rd_T48 l1 x8_3).f0)) = true := decide_eq_true c35
                     clear c35
                     simp only [Option.some.injEq, Prod.mk.injEq] at H
                     obtain ⟨rfl, rfl⟩ := H
                     have p406 : 0 ≤ (x8_3 : Int) := of_decide_eq_true (by first | (with_reducible assumption) | assumption)
                     have q406 : x8_3 < (l1.length : Int) := of_decide_eq_true (by first | (with_reducible assumption) | assumption)
                     obtain ⟨ad406, A406_1, c406_1, e406, hx406_0, hx406_1, hl406_1, hi406_1⟩ := at_T48 HR1.out x8_3 p406 q406
                     cases e406
                     replace hx406_0 := (HB.out.cell (World.block_lt_of_cell? w _ hx406_0)).trans hx406_0
                     replace hx406_1 := (HB.out.cell (World.block_lt_of_cell? w _ hx406_1)).trans hx406_1
                     have HR406_1 := Aside0.mk hi406_1
                     have HC406_1 := Aside0.mk hl406_1
                     clear hi406_1 hl406_1
                     replace p406 := eq_true p406
                     replace q406 := eq_true q406
                     have p407 : 0 ≤ (x8_3 : Int) := of_decide_eq_true (by first | (with_reducible assumption) | assumption)
                     have q407 : x8_3 < (l1.length : Int) := of_decide_eq_true (by first | (with_reducible assumption) | assumption)
                     obtain ⟨ad407, A407_1, c407_1, e407, hx407_0, hx407_1, hl407_1, hi407_1⟩ := at_T48 HR1.out x8_3 p407 q407
                     obtain rfl : ad406 = ad407 := (by injection e407)
                     replace hx407_0 := (HB.out.cell (World.block_lt_of_cell? w _ hx407_0)).trans hx407_0
                     replace hx407_1 := (HB.out.cell (World.block_lt_of_cell? w _ hx407_1)).trans hx407_1
                     have HR407_1 := Aside0.mk hi407_1
                     have HC407_1 := Aside0.mk hl407_1
                     clear hi407_1 hl407_1
                     replace p407 := eq_true p407
                     replace q407 := eq_true q407
                     have ea_ := Option.some.inj (hx406_1.symm.trans hx407_1)
                     injection ea_ with ea_ en_ ec_
                     subst ea_
                     subst ec_
                     clear en_
                     have p408 : 0 ≤ (x9_4 : Int) := of_decide_eq_true (by first | (with_reducible assumption) | assumption)
                     have q408 : x9_4 < (((rd_T48 l1 x8_3).f1).length : Int) := of_decide_eq_true (by first | (with_reducible assumption) | assumption)
                     obtain ⟨ad408, e408, hx408_0⟩ := Kd.at_int HR407_1.out x9_4 p408 q408
                     cases e408
                     replace hx408_0 := (HB.out.cell (World.block_lt_of_cell? w _ hx408_0)).trans hx408_0
                     replace p408 := eq_true p408
                     replace q408 := eq_true q408
                     try go_wp2
                     have n0_ := Aside0.mk (Kd.R_drew HO_7.out)
                     have n1_ := Aside0.mk (blk_drew BK397.out)
                     have n2_ := Aside0.mk (below_drew1 HB.out)
                     clear HO_7
                     clear BK397
                     clear HB
                     have HO_7 := n0_
                     have BK397 := n1_
                     have HB := n2_
                     clear n0_ n1_ n2_
                     have p409 : 0 ≤ (x8_3 : Int) := of_decide_eq_true (by first | (with_reducible assumption) | assumption)
                     have q409 : x8_3 < (l1.length : Int) := of_decide_eq_true (by first | (with_reducible assumption) | assumption)
                     obtain ⟨ad409, A409_1, c409_1, e409, hx409_0, hx409_1, hl409_1, hi409_1⟩ := at_T48 HR1.out x8_3 p409 q409
                     have hw409_1 := hx409_1
                     have hw409_0 := hx409_0
                     obtain rfl : ad406 = ad409 := (by injection e409)
                     replace hx409_0 := (HB.out.cell (World.block_lt_of_cell? w _ hx409_0)).trans hx409_0
                     replace hx409_1 := (HB.out.cell (World.block_lt_of_cell? w _ hx409_1)).trans hx409_1
                     have HR409_1 := Aside0.mk hi409_1
                     have HC409_1 := Aside0.mk hl409_1
                     clear hi409_1 hl409_1
                     replace p409 := eq_true p409
                     replace q409 := eq_true q409
                     obtain ⟨Ao37, co37, eo37⟩ := Kd.R_slice HO_7.out
                     (first | subst eo37 | (injection eo37 with f1_ f2_ f3_; have f4_ := f1_.symm; have f5_ := f3_.symm; clear f1_ f2_ f3_; subst f4_; subst f5_))
                     have p410 : 0 ≤ ((rd ((rd_T48 l1 x8_3).f1) x9_4) : Int) := of_decide_eq_true (by first | (with_reducible assumption) | assumption)
                     have q410 : (rd ((rd_T48 l1 x8_3).f1) x9_4) < (x7_4.length : Int) := of_decide_eq_true (by first | (with_reducible assumption) | assumption)
                     obtain ⟨ad410, e410, hx410_0⟩ := Kd.at_int (Kd.R_reads' HO_7.out).2.2 (rd ((rd_T48 l1 x8_3).f1) x9_4) p410 q410
                     cases e410
                     replace p410 := eq_true p410
                     replace q410 := eq_true q410
                     refine start_ (n := 11) (S := fun w' => w'.cell? (ad406.add ((x8_3).toNat * 2)) = some (.int .i64 ((rd_T48 l1 x8_3).f0)) ∧ w'.cell? ⟨(ad406.add ((x8_3).toNat * 2)).block, (ad406.add ((x8_3).toNat * 2)).off + 1, none⟩ = some (.slice A409_1 ((rd_T48 l1 x8_3).f1).length c409_1) ∧ w'.cell? (ad410.add ((rd ((rd_T48 l1 x8_3).f1) x9_4)).toNat) = some (.int .i64 (rd x7_4 (rd ((rd_T48 l1 x8_3).f1) x9_4)))) (ds := []) (mk 11 0) (by kernel_rfl) rfl (by kernel_rfl) ⟨((HB.out.cell (World.block_lt_of_cell? w _ hw409_0)).trans hw409_0), ((HB.out.cell (World.block_lt_of_cell? w _ hw409_1)).trans hw409_1), hx410_0⟩ (fun hHeld => ?_); refine with_tabW tollbarref4_Loads.tab16 tollbarref4_Loads.bits16 (fun HT_ HW_ => ?_)
                     generalize wr.drew = w36 at HO_7 BK397 HB HR409_1 hx409_0 hx409_1 hx410_0 hHeld ⊢
                     refine pu 0 70 (mk 11 1) HT_ ?_
                     refine pu 1 71 (mk 11 3) HT_ ?_
                     refine pu 2 72 (mk 11 7) HT_ ?_
                     refine pu 3 73 (mk 11 15) HT_ ?_
                     refine pu 5 75 (mk 11 47) HT_ ?_
                     refine pu 6 76 (mk 11 111) HT_ ?_
                     refine pu 7 77 (mk 11 239) HT_ ?_
                     refine ta 4 74 (mk 11 255) rfl rfl HT_ HW_ hHeld (Or.inl ⟨by rfl, by rintro w' ⟨s0, s1, s2⟩; go_simp; with_reducible rfl⟩) ?_
                     refine ta 8 78 (mk 11 511) rfl rfl HT_ HW_ hHeld (Or.inl ⟨by rfl, by rintro w' ⟨s0, s1, s2⟩; go_simp; with_reducible rfl⟩) ?_
                     refine pu 9 79 (mk 11 1023) HT_ ?_
                     refine pu 10 80 (mk 11 2047) HT_ ?_
                     refine done_ (done_of HT_.out (by kernel_rfl)) ?_
                     try go_wp2
                     go_ret2
                     exact ⟨_, by first | rfl | (simp [errW_none, errW_some] <;> rfl) | (simp [*, errW_none, errW_some] <;> rfl), by first | exact Kd.R_nil _ _ _ _ _ | exact Kd.N_nil _ _ _ _ _ | exact Kd.V_nil _ _ _ _ _ | exact Kd.Q_nil _ _ _ _ _ | exact Kd.S_nil _ _ _ _ _, by repeat (first | (with_reducible first | exact HB.out | apply below_alloc | apply pw_below_drewN | apply below_drew1 | refine below_set ?_ GE397.out) | exact HB.out)⟩
                    ·
                     rw [if_neg c35] at H
                     have c35b0 : decide ((wrap64 (4611686018427387904 - (rd x7_4 (rd ((rd_T48 l1 x8_3).f1) x9_4)))) < ((rd_T48 l1 x8_3).f0)) = false := decide_eq_false c35
                     clear c35
                     obtain ⟨y413, hy413⟩ : ∃ y_ : List Int, y_ = (x7_4.set ((rd ((rd_T48 l1 x8_3).f1) x9_4) : Int).toNat (wrap64 ((rd x7_4 (rd ((rd_T48 l1 x8_3).f1) x9_4)) + ((rd_T48 l1 x8_3).f0)))) := ⟨_, rfl⟩
                     replace H : (tollbarref4_Loads.l2 k4 l1 y413 x8_3 (wrap64 (x9_4 + 1))) = some (r1, r2) := by first | (rw [hy413]; with_reducible exact H) | (have H2_ := (Option.bind_some _ _).symm.trans H; rw [hy413]; with_reducible exact H2_) | (have H2_ := (Option.bind_some _ _).symm.trans H; with_reducible exact H2_) | with_reducible exact H | (rw [hy413]; exact H) | exact H
                     have Ny413 := Aside0.mk hy413
                     clear hy413
                     have H' := Aside0.mk H
                     clear H
                     have p406 : 0 ≤ (x8_3 : Int) := of_decide_eq_true (by first | (with_reducible assumption) | assumption)
                     have q406 : x8_3 < (l1.length : Int) := of_decide_eq_true (by first | (with_reducible assumption) | assumption)
                     obtain ⟨ad406, A406_1, c406_1, e406, hx406_0, hx406_1, hl406_1, hi406_1⟩ := at_T48 HR1.out x8_3 p406 q406
                     cases e406
                     replace hx406_0 := (HB.out.cell (World.block_lt_of_cell? w _ hx406_0)).trans hx406_0
                     replace hx406_1 := (HB.out.cell (World.block_lt_of_cell? w _ hx406_1)).trans hx406_1
                     have HR406_1 := Aside0.mk hi406_1
                     have HC406_1 := Aside0.mk hl406_1
                     clear hi406_1 hl406_1
                     replace p406 := eq_true p406
                     replace q406 := eq_true q406
                     have p407 : 0 ≤ (x8_3 : Int) := of_decide_eq_true (by first | (with_reducible assumption) | assumption)
                     have q407 : x8_3 < (l1.length : Int) := of_decide_eq_true (by first | (with_reducible assumption) | assumption)
                     obtain ⟨ad407, A407_1, c407_1, e407, hx407_0, hx407_1, hl407_1, hi407_1⟩ := at_T48 HR1.out x8_3 p407 q407
                     obtain rfl : ad406 = ad407 := (by injection e407)
                     replace hx407_0 := (HB.out.cell (World.block_lt_of_cell? w _ hx407_0)).trans hx407_0
                     replace hx407_1 := (HB.out.cell (World.block_lt_of_cell? w _ hx407_1)).trans hx407_1
                     have HR407_1 := Aside0.mk hi407_1
                     have HC407_1 := Aside0.mk hl407_1
                     clear hi407_1 hl407_1
                     replace p407 := eq_true p407
                     replace q407 := eq_true q407
                     have ea_ := Option.some.inj (hx406_1.symm.trans hx407_1)
                     injection ea_ with ea_ en_ ec_
                     subst ea_
                     subst ec_
                     clear en_
                     have p408 : 0 ≤ (x9_4 : Int) := of_decide_eq_true (by first | (with_reducible assumption) | assumption)
                     have q408 : x9_4 < (((rd_T48 l1 x8_3).f1).length : Int) := of_decide_eq_true (by first | (with_reducible assumption) | assumption)
                     obtain ⟨ad408, e408, hx408_0⟩ := Kd.at_int HR407_1.out x9_4 p408 q408
                     cases e408
                     replace hx408_0 := (HB.out.cell (World.block_lt_of_cell? w _ hx408_0)).trans hx408_0
                     replace p408 := eq_true p408
                     replace q408 := eq_true q408
                     try go_wp2
                     have n0_ := Aside0.mk (Kd.R_drew HO_7.out)
                     have n1_ := Aside0.mk (blk_drew BK397.out)
                     have n2_ := Aside0.mk (below_drew1 HB.out)
                     clear HO_7
                     clear BK397
                     clear HB
                     have HO_7 := n0_
                     have BK397 := n1_
                     have HB := n2_
                     clear n0_ n1_ n2_
                     have p409 : 0 ≤ (x8_3 : Int) := of_decide_eq_true (by first | (with_reducible assumption) | assumption)
                     have q409 : x8_3 < (l1.length : Int) := of_decide_eq_true (by first | (with_reducible assumption) | assumption)
                     obtain ⟨ad409, A409_1, c409_1, e409, hx409_0, hx409_1, hl409_1, hi409_1⟩ := at_T48 HR1.out x8_3 p409 q409
                     have hw409_1 := hx409_1
                     have hw409_0 := hx409_0
                     obtain rfl : ad406 = ad409 := (by injection e409)
                     replace hx409_0 := (HB.out.cell (World.block_lt_of_cell? w _ hx409_0)).trans hx409_0
                     replace hx409_1 := (HB.out.cell (World.block_lt_of_cell? w _ hx409_1)).trans hx409_1
                     have HR409_1 := Aside0.mk hi409_1
                     have HC409_1 := Aside0.mk hl409_1
                     clear hi409_1 hl409_1
                     replace p409 := eq_true p409
                     replace q409 := eq_true q409
                     obtain ⟨Ao40, co40, eo40⟩ := Kd.R_slice HO_7.out
                     (first | subst eo40 | (injection eo40 with f1_ f2_ f3_; have f4_ := f1_.symm; have f5_ := f3_.symm; clear f1_ f2_ f3_; subst f4_; subst f5_))
                     have p410 : 0 ≤ ((rd ((rd_T48 l1 x8_3).f1) x9_4) : Int) := of_decide_eq_true (by first | (with_reducible assumption) | assumption)
                     have q410 : (rd ((rd_T48 l1 x8_3).f1) x9_4) < (x7_4.length : Int) := of_decide_eq_true (by first | (with_reducible assumption) | assumption)
                     obtain ⟨ad410, e410, hx410_0⟩ := Kd.at_int (Kd.R_reads' HO_7.out).2.2 (rd ((rd_T48 l1 x8_3).f1) x9_4) p410 q410
                     cases e410
                     replace p410 := eq_true p410
                     replace q410 := eq_true q410
                     refine start_ (n := 11) (S := fun w' => w'.cell? (ad406.add ((x8_3).toNat * 2)) = some (.int .i64 ((rd_T48 l1 x8_3).f0)) ∧ w'.cell? ⟨(ad406.add ((x8_3).toNat * 2)).block, (ad406.add ((x8_3).toNat * 2)).off + 1, none⟩ = some (.slice A409_1 ((rd_T48 l1 x8_3).f1).length c409_1) ∧ w'.cell? (ad410.add ((rd ((rd_T48 l1 x8_3).f1) x9_4)).toNat) = some (.int .i64 (rd x7_4 (rd ((rd_T48 l1 x8_3).f1) x9_4)))) (ds := []) (mk 11 0) (by kernel_rfl) rfl (by kernel_rfl) ⟨((HB.out.cell (World.block_lt_of_cell? w _ hw409_0)).trans hw409_0), ((HB.out.cell (World.block_lt_of_cell? w _ hw409_1)).trans hw409_1), hx410_0⟩ (fun hHeld => ?_); refine with_tabW tollbarref4_Loads.tab16 tollbarref4_Loads.bits16 (fun HT_ HW_ => ?_)
                     generalize wr.drew = w39 at HO_7 BK397 HB HR409_1 hx409_0 hx409_1 hx410_0 hHeld ⊢
                     refine pu 0 70 (mk 11 1) HT_ ?_
                     refine pu 1 71 (mk 11 3) HT_ ?_
                     refine pu 2 72 (mk 11 7) HT_ ?_
                     refine pu 3 73 (mk 11 15) HT_ ?_
                     refine pu 5 75 (mk 11 47) HT_ ?_
                     refine pu 6 76 (mk 11 111) HT_ ?_
                     refine pu 7 77 (mk 11 239) HT_ ?_
                     refine ta 4 74 (mk 11 255) rfl rfl HT_ HW_ hHeld (Or.inl ⟨by rfl, by rintro w' ⟨s0, s1, s2⟩; go_simp; with_reducible rfl⟩) ?_
                     refine ta 8 78 (mk 11 511) rfl rfl HT_ HW_ hHeld (Or.inl ⟨by rfl, by rintro w' ⟨s0, s1, s2⟩; go_simp; with_reducible rfl⟩) ?_
                     refine pu 9 79 (mk 11 1023) HT_ ?_
                     refine pu 10 80 (mk 11 2047) HT_ ?_
                     refine done_ (done_of HT_.out (by kernel_rfl)) ?_
                     try go_wp2
                     have n0_ := Aside0.mk (Kd.R_drew HO_7.out)
                     have n1_ := Aside0.mk (blk_drew BK397.out)
                     have n2_ := Aside0.mk (below_drew1 HB.out)
                     clear HO_7
                     clear BK397
                     clear HB
                     have HO_7 := n0_
                     have BK397 := n1_
                     have HB := n2_
                     clear n0_ n1_ n2_
                     have p411 : 0 ≤ ((rd ((rd_T48 l1 x8_3).f1) x9_4) : Int) := of_decide_eq_true (by first | (with_reducible assumption) | assumption)
                     have q411 : (rd ((rd_T48 l1 x8_3).f1) x9_4) < (x7_4.length : Int) := of_decide_eq_true (by first | (with_reducible assumption) | assumption)
                     obtain ⟨ad411, e411, hx411_0⟩ := Kd.at_int (Kd.R_reads' HO_7.out).2.2 (rd ((rd_T48 l1 x8_3).f1) x9_4) p411 q411
                     obtain rfl : ad410 = ad411 := (by injection e411)
                     replace p411 := eq_true p411
                     replace q411 := eq_true q411
                     have p412 : 0 ≤ (x8_3 : Int) := of_decide_eq_true (by first | (with_reducible assumption) | assumption)
                     have q412 : x8_3 < (l1.length : Int) := of_decide_eq_true (by first | (with_reducible assumption) | assumption)
                     obtain ⟨ad412, A412_1, c412_1, e412, hx412_0, hx412_1, hl412_1, hi412_1⟩ := at_T48 HR1.out x8_3 p412 q412
                     have hw412_1 := hx412_1
                     have hw412_0 := hx412_0
                     obtain rfl : ad406 = ad412 := (by injection e412)
                     replace hx412_0 := (HB.out.cell (World.block_lt_of_cell? w _ hx412_0)).trans hx412_0
                     replace hx412_1 := (HB.out.cell (World.block_lt_of_cell? w _ hx412_1)).trans hx412_1
                     have HR412_1 := Aside0.mk hi412_1
                     have HC412_1 := Aside0.mk hl412_1
                     clear hi412_1 hl412_1
                     replace p412 := eq_true p412
                     replace q412 := eq_true q412
                     have p38 : 0 ≤ ((rd ((rd_T48 l1 x8_3).f1) x9_4) : Int) := of_decide_eq_true (by first | (with_reducible assumption) | assumption)
                     have q38 : ((rd ((rd_T48 l1 x8_3).f1) x9_4) : Int) < ((x7_4.length : Int) : Int) := of_decide_eq_true (by first | (with_reducible assumption) | assumption)
                     obtain ⟨go38, co38, eo38, gb38, gl38, cl38, HG38⟩ := Kd.R_form HO_7.out (by omega)
                     (first | cases eo38 | (injection eo38 with ea_ en_ ec_; (first | subst ea_ | (injection ea_ with ea_; subst ea_)); subst ec_; clear en_))
                     have GB38 := Aside0.mk gb38
                     have GG38 := Aside0.mk HG38
                     clear gb38 gl38 HG38
                     (first | simp only [add_plain] at hx410_0 | skip)
                     (first | simp only [add_plain] at hx411_0 | skip)
                     obtain ⟨hx38_0, hf38_0⟩ := Kd.R_celln 0 HO_7.out ((rd ((rd_T48 l1 x8_3).f1) x9_4) : Int) p38 q38
                     replace p38 := eq_true p38
                     replace q38 := eq_true q38
                     have HP42 := Kd.R_putn HO_7.out ((rd ((rd_T48 l1 x8_3).f1) x9_4) : Int) (wrap64 ((rd x7_4 (rd ((rd_T48 l1 x8_3).f1) x9_4)) + ((rd_T48 l1 x8_3).f0)))
                     rw [← Ny413.out] at HP42
                     have HQ42 := Aside0.mk HP42
                     clear HP42
                     refine start_ (n := 14) (S := fun w' => w'.cell? ⟨go38, ((rd ((rd_T48 l1 x8_3).f1) x9_4)).toNat, none⟩ = some (.int .i64 (rd x7_4 (rd ((rd_T48 l1 x8_3).f1) x9_4))) ∧ w'.cell? (ad406.add ((x8_3).toNat * 2)) = some (.int .i64 ((rd_T48 l1 x8_3).f0)) ∧ w'.cell? ⟨(ad406.add ((x8_3).toNat * 2)).block, (ad406.add ((x8_3).toNat * 2)).off + 1, none⟩ = some (.slice A412_1 ((rd_T48 l1 x8_3).f1).length c412_1)) (ds := [13]) (mk 14 0) (by kernel_rfl) rfl (by kernel_rfl) ⟨hx411_0, ((HB.out.cell (World.block_lt_of_cell? w _ hw412_0)).trans hw412_0), ((HB.out.cell (World.block_lt_of_cell? w _ hw412_1)).trans hw412_1)⟩ (fun hHeld => ?_); refine with_tabW tollbarref4_Loads.tab18 tollbarref4_Loads.bits18 (fun HT_ HW_ => ?_)
                     generalize w39.drew = w41 at HO_7 BK397 HB GG38 HQ42 HR412_1 hf38_0 hx38_0 hx410_0 hx411_0 hx412_0 hx412_1 hHeld ⊢
                     refine pu 0 81 (mk 14 1) HT_ ?_
                     refine pu 1 82 (mk 14 3) HT_ ?_
                     refine pu 2 83 (mk 14 7) HT_ ?_
                     refine pu 3 84 (mk 14 15) HT_ ?_
                     refine pu 4 85 (mk 14 31) HT_ ?_
                     refine pu 6 87 (mk 14 95) HT_ ?_
                     refine pu 7 88 (mk 14 223) HT_ ?_
                     refine pu 8 89 (mk 14 479) HT_ ?_
                     refine pu 9 90 (mk 14 991) HT_ ?_
                     refine ta 5 86 (mk 14 1023) rfl rfl HT_ HW_ hHeld (Or.inl ⟨by rfl, by rintro w' ⟨s0, s1, s2⟩; go_simp; with_reducible rfl⟩) ?_
                     refine ta 10 91 (mk 14 2047) rfl rfl HT_ HW_ hHeld (Or.inl ⟨by rfl, by rintro w' ⟨s0, s1, s2⟩; go_simp; with_reducible rfl⟩) ?_
                     refine pu 11 92 (mk 14 4095) HT_ ?_
                     refine pu 12 93 (mk 14 8191) HT_ ?_
                     refine last_ (i := 13) (N := none) (mk 14 16383) rfl rfl (one_of HT_.out (by kernel_rfl)) (by decide) (fun K hK => ?_)
                     refine skip_ (w1 := ?_) (by rfl) rfl ?_ ?_
                     rotate_left
                     ·
                      go_simp
                      rfl
                     refine hK.out _ _ ?_
                     clear hK K
                     refine done_ (done_of HT_.out (by kernel_rfl)) ?_
                     try go_wp2
                     go_roundg k4
                     case measure => have := HJ2.out; have := HK2.out; have := HK3.out; have := HK4.out; omega
                     case rel => exact ⟨(y413), (wrap64 (x9_4 + 1)), (by first | rfl | (simp; done) | (simp [*]; done)), H', ⟨by have := HJ2.out; have := HK2.out; have := HK3.out; have := HK4.out; omega⟩, ⟨by (with_reducible repeat (first | apply Kd.R_alloc | apply Kd.R_drewN | apply Kd.R_drew)); exact HQ42.out⟩, ⟨by (with_reducible repeat (first | refine blk_drewN ?_ _ | refine blk_drew ?_ | refine blk_alloc ?_ _)); refine blk_far ?_ (by have h_ := Kd.R_ne HO_7.out BK397.out (by decide); intro e_; exact h_ (by rw [e_]; rfl)) _; (with_reducible repeat (first | refine blk_drewN ?_ _ | refine blk_drew ?_ | refine blk_alloc ?_ _)); exact BK397.out⟩, ⟨by repeat (first | (with_reducible first | exact HB.out | apply below_alloc | apply pw_below_drewN | apply below_drew1 | refine below_set ?_ GB38.out | refine below_set ?_ GE397.out) | exact HB.out)⟩⟩
                   ·
                    rw [if_neg c34] at H
                    exact absurd H (by simp)
                  ·
                   rw [if_neg c33] at H
                   exact absurd H (by simp)
                 ·
                  rw [if_neg c32] at H
                  exact absurd H (by simp)
                ·
                 rw [if_neg c31] at H
                 have c31b0 : decide (x9_4 < (((rd_T48 l1 x8_3).f1).length : Int)) = false := decide_eq_false c31
                 clear c31
                 have H' := Aside0.mk H
                 clear H
                 have p406 : 0 ≤ (x8_3 : Int) := of_decide_eq_true (by first | (with_reducible assumption) | assumption)
                 have q406 : x8_3 < (l1.length : Int) := of_decide_eq_true (by first | (with_reducible assumption) | assumption)
                 obtain ⟨ad406, A406_1, c406_1, e406, hx406_0, hx406_1, hl406_1, hi406_1⟩ := at_T48 HR1.out x8_3 p406 q406
                 cases e406
                 replace hx406_0 := (HB.out.cell (World.block_lt_of_cell? w _ hx406_0)).trans hx406_0
                 replace hx406_1 := (HB.out.cell (World.block_lt_of_cell? w _ hx406_1)).trans hx406_1
                 have HR406_1 := Aside0.mk hi406_1
                 have HC406_1 := Aside0.mk hl406_1
                 clear hi406_1 hl406_1
                 replace p406 := eq_true p406
                 replace q406 := eq_true q406
                 go_wp2
                 go_roundg k4
                 case measure => have := HJ2.out; have := HK2.out; have := HK3.out; have := HK4.out; omega
                 case rel => exact ⟨(x7_4), (wrap64 (x8_3 + 1)), (by first | rfl | (simp; done) | (simp [*]; done)), H', ⟨by have := HJ2.out; have := HK2.out; have := HK3.out; have := HK4.out; omega⟩, ⟨by (with_reducible repeat (first | apply Kd.R_alloc | apply Kd.R_drewN | apply Kd.R_drew)); exact HO_7.out⟩, ⟨by (with_reducible repeat (first | refine blk_drewN ?_ _ | refine blk_drew ?_ | refine blk_alloc ?_ _)); exact BK397.out⟩, ⟨by repeat (first | (with_reducible first | exact HB.out | apply below_alloc | apply pw_below_drewN | apply below_drew1 | refine below_set ?_ GE397.out) | exact HB.out)⟩⟩
               ·
                rw [if_neg c30] at H
                exact absurd H (by simp)
              ·
               rw [if_neg c29] at H
               exact absurd H (by simp)
           ·
            rw [if_neg c28] at H
            have c28b0 : decide (x8_3 < (l1.length : Int)) = false := decide_eq_false c28
            clear c28
            simp only [Option.some.injEq, Prod.mk.injEq] at H
            obtain ⟨rfl, rfl⟩ := H
            go_wp2
            go_ret2
            exact ⟨_, by first | rfl | (simp [errW_none, errW_some] <;> rfl) | (simp [*, errW_none, errW_some] <;> rfl), by (with_reducible repeat (first | apply Kd.R_alloc | apply Kd.R_drewN | apply Kd.R_drew)); exact HO_7.out, by repeat (first | (with_reducible first | exact HB.out | apply below_alloc | apply pw_below_drewN | apply below_drew1 | refine below_set ?_ GE397.out) | exact HB.out)⟩
        ·
         rw [if_neg c24] at H
         exact absurd H (by simp)
       ·
        rw [if_neg c23] at H
        exact absurd H (by simp)
end Go.Proofs.Ytjpgnmbocklenaa.PAll
end
