/- Texts of this claim, one behind the other: F27, F34, F28, F7. -/
import Derived.Test.YtcfbfghdkgakmaaA8397e0
import Derived.Test.YtcfbfghdkgakmaaA6a5e45
import Derived.Test.YtcfbfghdkgakmaaA58122c
import Derived.Test.YtcfbfghdkgakmaaA91f4ec
section
/- tollbarref4_Levels: what it tells, and that its Go text comes to that. Written by a program for this claim. Thin. -/
namespace Go.Proofs.Ytcfbfghdkgakmaa.PAll
open Go.RowKit Go.Proofs.YtcfbfghdkgakmaaW.PrintWords Go.Proofs.YtcfbfghdkgakmaaW.PrintLast Go.Proofs.YtcfbfghdkgakmaaW.PrintMore
attribute [local go_sem] max2_int min2_int max_two min_two max_three min_three max_four min_four   -- for this text's walks alone
set_option linter.unusedVariables false
set_option linter.unusedSimpArgs false
/-! ### tollbarref4_Levels: function 27 -/
mutual
def tollbarref4_Levels.j0 : Nat → List Int → List Int → Int → Bool → Int → List (S53) → Option (List Int × Int)
 | 0, _, _, _, _, _, _ => none
 | k + 1, x1, x2, x3, x29, x526000, x526001 => if x29 = true then (some (([] : List Int), 1000)) else (if 0 ≤ x526000 then (if (x526000 : Int).toNat ≤ 35184372088832 then (tollbarref4_Levels.l0 k x1 x2 x3 (List.replicate (x526000 : Int).toNat 0) 0 x526000 x526001) else (none)) else (none))
def tollbarref4_Levels.l0 : Nat → List Int → List Int → Int → List Int → Int → Int → List (S53) → Option (List Int × Int)
 | 0, _, _, _, _, _, _, _ => none
 | k + 1, x1, x2, x3, x10, x11, x526000, x526001 => if x11 < x526000 then (if 0 ≤ x11 then (if x11 < (x10.length : Int) then (tollbarref4_Levels.l0 k x1 x2 x3 (x10.set (x11 : Int).toNat (-1)) (wrap64 (x11 + 1)) x526000 x526001) else (none)) else (none)) else (if 0 ≤ x3 then (if x3 < (x10.length : Int) then (tollbarref4_Levels.l1 k x1 x2 (x10.set (x3 : Int).toNat 0) 0 x526000 x526001) else (none)) else (none))
def tollbarref4_Levels.l1 : Nat → List Int → List Int → List Int → Int → Int → List (S53) → Option (List Int × Int)
 | 0, _, _, _, _, _, _ => none
 | k + 1, x1, x2, x10, x12, x526000, x526001 => if x12 < x526000 then (tollbarref4_Levels.l2 k x1 x2 x10 x12 0 x526000 x526001) else (some (x10, 0))
def tollbarref4_Levels.l2 : Nat → List Int → List Int → List Int → Int → Int → Int → List (S53) → Option (List Int × Int)
 | 0, _, _, _, _, _, _, _ => none
 | k + 1, x1, x2, x10, x12, x13, x526000, x526001 => if x13 < (wrap64 (2 * (x526001.length : Int))) then ((tollbarref4_Tail.f x526000 x526001 x13).bind fun t534 => (if 0 ≤ t534 then (if t534 < (x10.length : Int) then (if (rd x10 t534) = x12 then ((tollbarref4_room.f x1 x2 x13).bind fun t536 => (if t536 > 0 then ((tollbarref4_Head.f x526000 x526001 x13).bind fun t537 => (if 0 ≤ t537 then (if t537 < (x10.length : Int) then (if (rd x10 t537) < 0 then ((tollbarref4_Head.f x526000 x526001 x13).bind fun t539 => (if 0 ≤ t539 then (if t539 < (x10.length : Int) then (tollbarref4_Levels.l2 k x1 x2 (x10.set (t539 : Int).toNat (wrap64 (x12 + 1))) x12 (wrap64 (x13 + 1)) x526000 x526001) else (none)) else (none))) else (tollbarref4_Levels.l2 k x1 x2 x10 x12 (wrap64 (x13 + 1)) x526000 x526001)) else (none)) else (none))) else (tollbarref4_Levels.l2 k x1 x2 x10 x12 (wrap64 (x13 + 1)) x526000 x526001))) else (tollbarref4_Levels.l2 k x1 x2 x10 x12 (wrap64 (x13 + 1)) x526000 x526001)) else (none)) else (none))) else (tollbarref4_Levels.l1 k x1 x2 x10 (wrap64 (x12 + 1)) x526000 x526001)
end
def tollbarref4_Levels.f (k : Nat) (a0_0 : Int) (l0_1 : List (S53)) (l1 : List Int) (l2 : List Int) (a3 : Int) : Option (List Int × Int) := (tollbarref4_CapsMay.f k a0_0 l0_1 l1).bind fun t526 => (if t526 = true then ((tollbarref4_Within.f k l1 l2).bind fun t527 => (if t527 = true then ((tollbarref4_Vertex.f a0_0 l0_1 a3).bind fun t528 => (tollbarref4_Levels.j0 k l1 l2 a3 (!t528) a0_0 l0_1)) else (tollbarref4_Levels.j0 k l1 l2 a3 true a0_0 l0_1))) else (tollbarref4_Levels.j0 k l1 l2 a3 true a0_0 l0_1))
set_option maxHeartbeats 8000000 in
set_option maxRecDepth 100000 in
theorem tollbarref4_Levels.calls (k : Nat) (a0_0 : Int) (A0_1 : Option Addr) (c0_1 : Nat) (l0_1 : List (S53)) (A1 : Option Addr) (c1 : Nat) (l1 : List Int) (A2 : Option Addr) (c2 : Nat) (l2 : List Int) (a3 : Int) (r1 : List Int) (r2 : Int) (w : World) (hr0_1 : Kd.C k53 w A0_1 l0_1.length l0_1) (hc0_1 : l0_1.length ≤ c0_1) (hr1 : Kd.C (Kd.int .i64) w A1 l1.length l1) (hc1 : l1.length ≤ c1) (hr2 : Kd.C (Kd.int .i64) w A2 l2.length l2) (hc2 : l2.length ≤ c2) (h : tollbarref4_Levels.f k a0_0 l0_1 l1 l2 a3 = some (r1, r2)) :
  Calls Try.prog 27 #[.agg #[.int .i64 a0_0, .slice A0_1 l0_1.length c0_1], .slice A1 l1.length c1, .slice A2 l2.length c2, .int .i64 a3] w fun e w' => ∃ v0_ : Value, e = .returned (.tuple #[v0_, .int .i64 r2]) ∧ Kd.R (Kd.int .i64) 3 w' w.heap.size (fun _ => True) v0_ r1 ∧ Below w.heap.size w w' := by
 have hu24 := Try.underlying24
 have HR0_1 := Aside0.mk hr0_1
 have HC0_1 := Aside0.mk hc0_1
 clear hr0_1 hc0_1
 have HR1 := Aside0.mk hr1
 have HC1 := Aside0.mk hc1
 clear hr1 hc1
 have HR2 := Aside0.mk hr2
 have HC2 := Aside0.mk hc2
 clear hr2 hc2
 have HB := Aside0.mk (Below.refl w.heap.size w)
 have H : ((tollbarref4_CapsMay.f k a0_0 l0_1 l1).bind fun t526 => (if t526 = true then ((tollbarref4_Within.f k l1 l2).bind fun t527 => (if t527 = true then ((tollbarref4_Vertex.f a0_0 l0_1 a3).bind fun t528 => (tollbarref4_Levels.j0 k l1 l2 a3 (!t528) a0_0 l0_1)) else (tollbarref4_Levels.j0 k l1 l2 a3 true a0_0 l0_1))) else (tollbarref4_Levels.j0 k l1 l2 a3 true a0_0 l0_1))) = some (r1, r2) := h
 clear h
 have HC5 := Aside0.mk H
 clear H
 go_enter Try.func27, Try.ntmps27
 go_upto_region 1 with (first | ((with_reducible refine gate_dst (N := 4) rfl ?_); refine box_event ?hg (N := 4) ?hd (cs := #[.int .i64 a0_0, .slice A0_1 l0_1.length c0_1]) (t := 24) ?hr ?_; (case hd => rfl); (case hg => rfl); (case hr => first | (go_simp; done) | (go_simp; rfl)); intro gb525 hg w6 hbox hb; have n0_ := Aside0.mk (below_step (by repeat (first | (with_reducible first | exact HB.out | apply below_alloc | apply pw_below_drewN | apply below_drew1) | exact HB.out)) hb); have n1_ := Aside0.mk (hbox); have n2_ := Aside0.mk ((by rw [hg]; exact (below_size (by repeat (first | (with_reducible first | exact HB.out | apply below_alloc | apply pw_below_drewN | apply below_drew1) | exact HB.out))) : w.heap.size ≤ gb525)); have n3_ := Aside0.mk ((by rw [hg]; exact (below_size (by repeat (first | (with_reducible first | exact HB.out | apply below_alloc | apply pw_below_drewN | apply below_drew1) | exact HB.out))) : w.heap.size ≤ gb525)); clear HB; have HB := n0_; have BK525 := n1_; have GW525 := n2_; have GE525 := n3_; clear n0_ n1_ n2_ n3_; clear hb hbox hg))
 (try simp only [Act.put, List.setIfInBounds_toArray, List.set_cons_zero, List.set_cons_succ])
 go_cut [29] (fun v29 wc => ∃ (kq : Nat) (x29_4 : Bool), v29 = .bool x29_4 ∧ Aside0 (tollbarref4_Levels.j0 kq l1 l2 a3 x29_4 a0_0 l0_1 = some (r1, r2)) ∧ Aside0 (kq ≤ k) ∧ Aside0 (wc.heap[gb525]? = some (.cells #[.int .i64 a0_0, (.slice A0_1 l0_1.length c0_1)] 24 (0, 0))) ∧ Aside0 (Below w.heap.size w wc))
 case first =>
  have H := HC5.out
  clear HC5
  replace H := Option.bind_eq_some_iff.mp H
  obtain ⟨t526, A70, H⟩ := H
  replace H : (if t526 = true then ((tollbarref4_Within.f k l1 l2).bind fun t527 => (if t527 = true then ((tollbarref4_Vertex.f a0_0 l0_1 a3).bind fun t528 => (tollbarref4_Levels.j0 k l1 l2 a3 (!t528) a0_0 l0_1)) else (tollbarref4_Levels.j0 k l1 l2 a3 true a0_0 l0_1))) else (tollbarref4_Levels.j0 k l1 l2 a3 true a0_0 l0_1)) = some (r1, r2) := H
  have A7 := Aside0.mk A70
  clear A70
  by_cases c8 : t526 = true
  ·
   subst c8
   have H1 : ((tollbarref4_Within.f k l1 l2).bind fun t527 => (if t527 = true then ((tollbarref4_Vertex.f a0_0 l0_1 a3).bind fun t528 => (tollbarref4_Levels.j0 k l1 l2 a3 (!t528) a0_0 l0_1)) else (tollbarref4_Levels.j0 k l1 l2 a3 true a0_0 l0_1))) = some (r1, r2) := by rw [if_pos rfl] at H; exact H
   clear H
   have H := H1
   clear H1
   replace H := Option.bind_eq_some_iff.mp H
   obtain ⟨t527, A90, H⟩ := H
   replace H : (if t527 = true then ((tollbarref4_Vertex.f a0_0 l0_1 a3).bind fun t528 => (tollbarref4_Levels.j0 k l1 l2 a3 (!t528) a0_0 l0_1)) else (tollbarref4_Levels.j0 k l1 l2 a3 true a0_0 l0_1)) = some (r1, r2) := H
   have A9 := Aside0.mk A90
   clear A90
   by_cases c10 : t527 = true
   ·
    subst c10
    have H1 : ((tollbarref4_Vertex.f a0_0 l0_1 a3).bind fun t528 => (tollbarref4_Levels.j0 k l1 l2 a3 (!t528) a0_0 l0_1)) = some (r1, r2) := by rw [if_pos rfl] at H; exact H
    clear H
    have H := H1
    clear H1
    replace H := Option.bind_eq_some_iff.mp H
    obtain ⟨t528, A110, H⟩ := H
    replace H : (tollbarref4_Levels.j0 k l1 l2 a3 (!t528) a0_0 l0_1) = some (r1, r2) := H
    have A11 := Aside0.mk A110
    clear A110
    have H' := Aside0.mk H
    clear H
    have hcz12_0 : w6.cell? ⟨gb525, 0, none⟩ = some (.int .i64 a0_0) := (blk_cell BK525.out 0).trans rfl
    have hcz12_1 : w6.cell? ⟨gb525, 1, none⟩ = some (.slice A0_1 l0_1.length c0_1) := (blk_cell BK525.out 1).trans rfl
    have hfz12_0 := blk_frozen BK525.out 0
    have hfz12_1 := blk_frozen BK525.out 1
    go_wp2_with (first | ((with_reducible refine gate_callee (f := 31) rfl ?_); refine goesL_ (some 16) rfl rfl Try.func31 (by kernel_rfl) rfl #[.agg #[.int .i64 a0_0, .slice A0_1 l0_1.length c0_1], .slice A1 l1.length c1] rfl (by (try simp only [List.map_toArray, List.map_cons, List.map_nil]); first | done | rfl | (simp only [List.length_drop, List.length_take]; rfl)) ?_; (with_reducible refine (tollbarref4_CapsMay.calls k a0_0 _ _ l0_1 _ _ l1 true _ ?side1 ?side2 ?side3 ?side4 A7.out).mono ?_); (case side1 => repeat (first | exact (Kd.C_below HR0_1.out HB.out) | (with_reducible refine Kd.C_alloc ?_ _) | (with_reducible refine Kd.C_drewN ?_ _) | (with_reducible refine Kd.C_drew ?_))); (case side2 => exact HC0_1.out); (case side3 => repeat (first | exact (Kd.C_below HR1.out HB.out) | (with_reducible refine Kd.C_alloc ?_ _) | (with_reducible refine Kd.C_drewN ?_ _) | (with_reducible refine Kd.C_drew ?_))); (case side4 => exact HC1.out); rintro e w13 ⟨rfl, hb⟩; refine ⟨_, rfl, ?_⟩; have n0_ := Aside0.mk (blk_below (g := gb525) (o := .cells #[.int .i64 a0_0, .slice A0_1 l0_1.length c0_1] 24 (0, 0)) (by (with_reducible repeat (first | refine blk_drewN ?_ _ | refine blk_drew ?_ | refine blk_alloc ?_ _)); exact BK525.out) hb); have n1_ := Aside0.mk (below_step (by repeat (first | (with_reducible first | exact HB.out | apply below_alloc | apply pw_below_drewN | apply below_drew1 | refine below_set ?_ GE525.out) | exact HB.out)) hb); clear BK525; clear HB; have BK525 := n0_; have HB := n1_; clear n0_ n1_; (try clear hb); (try clear hb2); (try clear hk); (try clear hi)) | (go_at_call 40; (with_reducible refine (tollbarref4_Within.calls k _ _ l1 _ _ l2 true _ ?side1 ?side2 ?side3 ?side4 A9.out).mono ?_); (case side1 => repeat (first | exact (Kd.C_below HR1.out HB.out) | (with_reducible refine Kd.C_alloc ?_ _) | (with_reducible refine Kd.C_drewN ?_ _) | (with_reducible refine Kd.C_drew ?_))); (case side2 => exact HC1.out); (case side3 => repeat (first | exact (Kd.C_below HR2.out HB.out) | (with_reducible refine Kd.C_alloc ?_ _) | (with_reducible refine Kd.C_drewN ?_ _) | (with_reducible refine Kd.C_drew ?_))); (case side4 => exact HC2.out); rintro e w' ⟨rfl, ⟨nd, rfl⟩⟩; have hcz14_0 : w13.cell? ⟨gb525, 0, none⟩ = some (.int .i64 a0_0) := (blk_cell BK525.out 0).trans rfl; have hcz14_1 : w13.cell? ⟨gb525, 1, none⟩ = some (.slice A0_1 l0_1.length c0_1) := (blk_cell BK525.out 1).trans rfl; have hfz14_0 := blk_frozen BK525.out 0; have hfz14_1 := blk_frozen BK525.out 1) | (go_at_call 42; (with_reducible refine (tollbarref4_Vertex.calls a0_0 _ _ l0_1 a3 t528 _ ?side1 ?side2 A11.out).mono ?_); (case side1 => repeat (first | exact (Kd.C_below HR0_1.out (by repeat (first | (with_reducible first | exact HB.out | apply below_alloc | apply pw_below_drewN | apply below_drew1 | refine below_set ?_ GE525.out) | exact HB.out))) | (with_reducible refine Kd.C_alloc ?_ _) | (with_reducible refine Kd.C_drewN ?_ _) | (with_reducible refine Kd.C_drew ?_))); (case side2 => exact HC0_1.out); rintro e w15 ⟨rfl, hb⟩; have n0_ := Aside0.mk (blk_below (g := gb525) (o := .cells #[.int .i64 a0_0, .slice A0_1 l0_1.length c0_1] 24 (0, 0)) (by (with_reducible repeat (first | refine blk_drewN ?_ _ | refine blk_drew ?_ | refine blk_alloc ?_ _)); exact BK525.out) hb); have n1_ := Aside0.mk (below_step (by repeat (first | (with_reducible first | exact HB.out | apply below_alloc | apply pw_below_drewN | apply below_drew1 | refine below_set ?_ GE525.out) | exact HB.out)) hb); clear BK525; clear HB; have BK525 := n0_; have HB := n1_; clear n0_ n1_; (try clear hb); (try clear hb2); (try clear hk); (try clear hi)))
    go_meet
    case rel => exact ⟨_, (!t528), (by first | rfl | (simp; done) | (simp [*]; done)), H', ⟨by first | omega | exact Nat.le_refl _⟩, ⟨by (with_reducible repeat (first | refine blk_drewN ?_ _ | refine blk_drew ?_ | refine blk_alloc ?_ _)); exact BK525.out⟩, ⟨by repeat (first | (with_reducible first | exact HB.out | apply below_alloc | apply pw_below_drewN | apply below_drew1 | refine below_set ?_ GE525.out) | exact HB.out)⟩⟩
   ·
    replace c10 := Bool.eq_false_iff.mpr c10
    subst c10
    have H1 : (tollbarref4_Levels.j0 k l1 l2 a3 true a0_0 l0_1) = some (r1, r2) := by rw [if_neg (show ¬ (false = true) by decide)] at H; exact H
    clear H
    have H := H1
    clear H1
    have H' := Aside0.mk H
    clear H
    have hcz16_0 : w6.cell? ⟨gb525, 0, none⟩ = some (.int .i64 a0_0) := (blk_cell BK525.out 0).trans rfl
    have hcz16_1 : w6.cell? ⟨gb525, 1, none⟩ = some (.slice A0_1 l0_1.length c0_1) := (blk_cell BK525.out 1).trans rfl
    have hfz16_0 := blk_frozen BK525.out 0
    have hfz16_1 := blk_frozen BK525.out 1
    go_wp2_with (first | ((with_reducible refine gate_callee (f := 31) rfl ?_); refine goesL_ (some 16) rfl rfl Try.func31 (by kernel_rfl) rfl #[.agg #[.int .i64 a0_0, .slice A0_1 l0_1.length c0_1], .slice A1 l1.length c1] rfl (by (try simp only [List.map_toArray, List.map_cons, List.map_nil]); first | done | rfl | (simp only [List.length_drop, List.length_take]; rfl)) ?_; (with_reducible refine (tollbarref4_CapsMay.calls k a0_0 _ _ l0_1 _ _ l1 true _ ?side1 ?side2 ?side3 ?side4 A7.out).mono ?_); (case side1 => repeat (first | exact (Kd.C_below HR0_1.out HB.out) | (with_reducible refine Kd.C_alloc ?_ _) | (with_reducible refine Kd.C_drewN ?_ _) | (with_reducible refine Kd.C_drew ?_))); (case side2 => exact HC0_1.out); (case side3 => repeat (first | exact (Kd.C_below HR1.out HB.out) | (with_reducible refine Kd.C_alloc ?_ _) | (with_reducible refine Kd.C_drewN ?_ _) | (with_reducible refine Kd.C_drew ?_))); (case side4 => exact HC1.out); rintro e w17 ⟨rfl, hb⟩; refine ⟨_, rfl, ?_⟩; have n0_ := Aside0.mk (blk_below (g := gb525) (o := .cells #[.int .i64 a0_0, .slice A0_1 l0_1.length c0_1] 24 (0, 0)) (by (with_reducible repeat (first | refine blk_drewN ?_ _ | refine blk_drew ?_ | refine blk_alloc ?_ _)); exact BK525.out) hb); have n1_ := Aside0.mk (below_step (by repeat (first | (with_reducible first | exact HB.out | apply below_alloc | apply pw_below_drewN | apply below_drew1 | refine below_set ?_ GE525.out) | exact HB.out)) hb); clear BK525; clear HB; have BK525 := n0_; have HB := n1_; clear n0_ n1_; (try clear hb); (try clear hb2); (try clear hk); (try clear hi)) | (go_at_call 40; (with_reducible refine (tollbarref4_Within.calls k _ _ l1 _ _ l2 false _ ?side1 ?side2 ?side3 ?side4 A9.out).mono ?_); (case side1 => repeat (first | exact (Kd.C_below HR1.out HB.out) | (with_reducible refine Kd.C_alloc ?_ _) | (with_reducible refine Kd.C_drewN ?_ _) | (with_reducible refine Kd.C_drew ?_))); (case side2 => exact HC1.out); (case side3 => repeat (first | exact (Kd.C_below HR2.out HB.out) | (with_reducible refine Kd.C_alloc ?_ _) | (with_reducible refine Kd.C_drewN ?_ _) | (with_reducible refine Kd.C_drew ?_))); (case side4 => exact HC2.out); rintro e w' ⟨rfl, ⟨nd, rfl⟩⟩))
    go_meet
    case rel => exact ⟨_, (true), (by first | rfl | (simp; done) | (simp [*]; done)), H', ⟨by first | omega | exact Nat.le_refl _⟩, ⟨by (with_reducible repeat (first | refine blk_drewN ?_ _ | refine blk_drew ?_ | refine blk_alloc ?_ _)); exact BK525.out⟩, ⟨by repeat (first | (with_reducible first | exact HB.out | apply below_alloc | apply pw_below_drewN | apply below_drew1 | refine below_set ?_ GE525.out) | exact HB.out)⟩⟩
  ·
   replace c8 := Bool.eq_false_iff.mpr c8
   subst c8
   have H1 : (tollbarref4_Levels.j0 k l1 l2 a3 true a0_0 l0_1) = some (r1, r2) := by rw [if_neg (show ¬ (false = true) by decide)] at H; exact H
   clear H
   have H := H1
   clear H1
   have H' := Aside0.mk H
   clear H
   have hcz18_0 : w6.cell? ⟨gb525, 0, none⟩ = some (.int .i64 a0_0) := (blk_cell BK525.out 0).trans rfl
   have hcz18_1 : w6.cell? ⟨gb525, 1, none⟩ = some (.slice A0_1 l0_1.length c0_1) := (blk_cell BK525.out 1).trans rfl
   have hfz18_0 := blk_frozen BK525.out 0
   have hfz18_1 := blk_frozen BK525.out 1
   go_wp2_with (first | ((with_reducible refine gate_callee (f := 31) rfl ?_); refine goesL_ (some 16) rfl rfl Try.func31 (by kernel_rfl) rfl #[.agg #[.int .i64 a0_0, .slice A0_1 l0_1.length c0_1], .slice A1 l1.length c1] rfl (by (try simp only [List.map_toArray, List.map_cons, List.map_nil]); first | done | rfl | (simp only [List.length_drop, List.length_take]; rfl)) ?_; (with_reducible refine (tollbarref4_CapsMay.calls k a0_0 _ _ l0_1 _ _ l1 false _ ?side1 ?side2 ?side3 ?side4 A7.out).mono ?_); (case side1 => repeat (first | exact (Kd.C_below HR0_1.out HB.out) | (with_reducible refine Kd.C_alloc ?_ _) | (with_reducible refine Kd.C_drewN ?_ _) | (with_reducible refine Kd.C_drew ?_))); (case side2 => exact HC0_1.out); (case side3 => repeat (first | exact (Kd.C_below HR1.out HB.out) | (with_reducible refine Kd.C_alloc ?_ _) | (with_reducible refine Kd.C_drewN ?_ _) | (with_reducible refine Kd.C_drew ?_))); (case side4 => exact HC1.out); rintro e w19 ⟨rfl, hb⟩; refine ⟨_, rfl, ?_⟩; have n0_ := Aside0.mk (blk_below (g := gb525) (o := .cells #[.int .i64 a0_0, .slice A0_1 l0_1.length c0_1] 24 (0, 0)) (by (with_reducible repeat (first | refine blk_drewN ?_ _ | refine blk_drew ?_ | refine blk_alloc ?_ _)); exact BK525.out) hb); have n1_ := Aside0.mk (below_step (by repeat (first | (with_reducible first | exact HB.out | apply below_alloc | apply pw_below_drewN | apply below_drew1 | refine below_set ?_ GE525.out) | exact HB.out)) hb); clear BK525; clear HB; have BK525 := n0_; have HB := n1_; clear n0_ n1_; (try clear hb); (try clear hb2); (try clear hk); (try clear hi)))
   go_meet
   case rel => exact ⟨_, (true), (by first | rfl | (simp; done) | (simp [*]; done)), H', ⟨by first | omega | exact Nat.le_refl _⟩, ⟨by (with_reducible repeat (first | refine blk_drewN ?_ _ | refine blk_drew ?_ | refine blk_alloc ?_ _)); exact BK525.out⟩, ⟨by repeat (first | (with_reducible first | exact HB.out | apply below_alloc | apply pw_below_drewN | apply below_drew1 | refine below_set ?_ GE525.out) | exact HB.out)⟩⟩
 case rest =>
  clear HC5
  try clear c1
  try clear c2
  try clear p2
  try clear c3
  try clear c8
  try clear c10
  try clear hcz12_0
  try clear hcz12_1
  try clear hcz14_0
  try clear hcz14_1
  try clear hcz16_0
  try clear hcz16_1
  try clear hcz18_0
  try clear hcz18_1
  try clear hfz12_0
  try clear hfz12_1
  try clear hfz14_0
  try clear hfz14_1
  try clear hfz16_0
  try clear hfz16_1
  try clear hfz18_0
  try clear hfz18_1
  obtain ⟨kq, x29_4, rfl, HA, HJ4, BK525, HB⟩ := hcut
  cases kq with
  | zero => exact absurd HA.out (by simp [tollbarref4_Levels.j0])
  | succ kj4 =>
   have H := HA.out
   clear HA
   simp only [tollbarref4_Levels.j0] at H
   by_cases c20 : x29_4 = true
   ·
    subst c20
    have H1 : (some (([] : List Int), 1000)) = some (r1, r2) := by rw [if_pos rfl] at H; exact H
    clear H
    have H := H1
    clear H1
    simp only [Option.some.injEq, Prod.mk.injEq] at H
    obtain ⟨rfl, rfl⟩ := H
    go_wp2
    go_ret2
    exact ⟨_, by first | rfl | (simp [errW_none, errW_some] <;> rfl) | (simp [*, errW_none, errW_some] <;> rfl), by first | exact Kd.R_nil _ _ _ _ _ | exact Kd.N_nil _ _ _ _ _ | exact Kd.V_nil _ _ _ _ _ | exact Kd.Q_nil _ _ _ _ _ | exact Kd.S_nil _ _ _ _ _, by repeat (first | (with_reducible first | exact HB.out | apply below_alloc | apply pw_below_drewN | apply below_drew1 | refine below_set ?_ GE525.out) | exact HB.out)⟩
   ·
    replace c20 := Bool.eq_false_iff.mpr c20
    subst c20
    have H1 : (if 0 ≤ a0_0 then (if (a0_0 : Int).toNat ≤ 35184372088832 then (tollbarref4_Levels.l0 kj4 l1 l2 a3 (List.replicate (a0_0 : Int).toNat 0) 0 a0_0 l0_1) else (none)) else (none)) = some (r1, r2) := by rw [if_neg (show ¬ (false = true) by decide)] at H; exact H
    clear H
    have H := H1
    clear H1
    by_cases c21 : 0 ≤ a0_0
    ·
     rw [if_pos c21] at H
     have c21b0 := eq_true c21
     have c21b1 : decide (0 ≤ a0_0) = true := decide_eq_true c21
     clear c21
     by_cases c22 : (a0_0 : Int).toNat ≤ 35184372088832
     ·
      rw [if_pos c22] at H
      have c22b0 := eq_true c22
      have c22b1 : decide ((a0_0 : Int).toNat ≤ 35184372088832) = true := decide_eq_true c22
      clear c22
      obtain ⟨y529, hy529⟩ : ∃ y_ : List Int, y_ = (List.replicate (a0_0 : Int).toNat 0) := ⟨_, rfl⟩
      replace H : (tollbarref4_Levels.l0 kj4 l1 l2 a3 y529 0 a0_0 l0_1) = some (r1, r2) := by first | (rw [hy529]; with_reducible exact H) | (have H2_ := (Option.bind_some _ _).symm.trans H; rw [hy529]; with_reducible exact H2_) | (have H2_ := (Option.bind_some _ _).symm.trans H; with_reducible exact H2_) | with_reducible exact H | (rw [hy529]; exact H) | exact H
      have Ny529 := Aside0.mk hy529
      clear hy529
      have H' := Aside0.mk H
      clear H
      have hcz23_0 : wc.cell? ⟨gb525, 0, none⟩ = some (.int .i64 a0_0) := (blk_cell BK525.out 0).trans rfl
      have hcz23_1 : wc.cell? ⟨gb525, 1, none⟩ = some (.slice A0_1 l0_1.length c0_1) := (blk_cell BK525.out 1).trans rfl
      have hfz23_0 := blk_frozen BK525.out 0
      have hfz23_1 := blk_frozen BK525.out 1
      go_wp2_with (first | ((with_reducible refine gate_dst (N := 32) rfl ?_); refine Kd.R_make (Kd.int .i64) _ 3 rfl (N := 32) rfl 25 _ _ rfl a0_0 rfl rfl Try.underlying25 (.int .i64 0) 8 info3 rfl (by decide) (by omega) 0 (ok := fun _ => True) (okp := fun _ => True) rfl (fun _ hk => hk) trivial (of_decide_eq_true (by first | (with_reducible assumption) | assumption)) (Nat.le_trans (Nat.mul_le_mul_right _ (of_decide_eq_true (by first | (with_reducible assumption) | assumption) : a0_0.toNat ≤ 35184372088832)) (by omega)) (Below.refl _ _) (Nat.le_refl _) ?_; intro v530 w24 ho25 hb hg_ hnew_; clear hg_ hnew_; (first | rw [← Ny529.out] at ho25 | (simp only [Int.reduceToNat] at ho25; rw [← Ny529.out] at ho25)); have n0_ := Aside0.mk (Kd.R_lower ho25 (below_size (by repeat (first | (with_reducible first | exact HB.out | apply below_alloc | apply pw_below_drewN | apply below_drew1 | refine below_set ?_ GE525.out) | exact HB.out)))); have n1_ := Aside0.mk (blk_below (g := gb525) (o := .cells #[.int .i64 a0_0, .slice A0_1 l0_1.length c0_1] 24 (0, 0)) (by (with_reducible repeat (first | refine blk_drewN ?_ _ | refine blk_drew ?_ | refine blk_alloc ?_ _)); exact BK525.out) hb); have n2_ := Aside0.mk (below_step (by repeat (first | (with_reducible first | exact HB.out | apply below_alloc | apply pw_below_drewN | apply below_drew1 | refine below_set ?_ GE525.out) | exact HB.out)) hb); clear BK525; clear HB; have HO531 := n0_; have BK525 := n1_; have HB := n2_; clear n0_ n1_ n2_; clear hb ho25))
      go_loopg [11] kj4 (fun kq v11 w' => ∃ (x10_2 : List Int) (x11_2 : Int), v11 = .int .i64 x11_2 ∧ Aside0 (tollbarref4_Levels.l0 kq l1 l2 a3 x10_2 x11_2 a0_0 l0_1 = some (r1, r2)) ∧ Aside0 (kq ≤ kj4) ∧ Aside0 (Kd.R (Kd.int .i64) 3 w' w.heap.size (fun _ => True) v530 x10_2) ∧ Aside0 (w'.heap[gb525]? = some (.cells #[.int .i64 a0_0, (.slice A0_1 l0_1.length c0_1)] 24 (0, 0))) ∧ Aside0 (Below w.heap.size w w'))
      case atStart => exact ⟨(y529), (0), (by first | rfl | (simp; done) | (simp [*]; done)), H', ⟨Nat.le_refl _⟩, ⟨by (with_reducible repeat (first | apply Kd.R_alloc | apply Kd.R_drewN | apply Kd.R_drew)); exact HO531.out⟩, ⟨by (with_reducible repeat (first | refine blk_drewN ?_ _ | refine blk_drew ?_ | refine blk_alloc ?_ _)); exact BK525.out⟩, ⟨by repeat (first | (with_reducible first | exact HB.out | apply below_alloc | apply pw_below_drewN | apply below_drew1 | refine below_set ?_ GE525.out) | exact HB.out)⟩⟩
      case round =>
       clear H'
       try clear c1
       try clear c2
       try clear p2
       try clear c3
       try clear c8
       try clear c10
       try clear c20
       try clear c21
       try clear c21b0
       try clear c21b1
       try clear c22
       try clear c22b0
       try clear c22b1
       try clear hcz12_0
       try clear hcz12_1
       try clear hcz14_0
       try clear hcz14_1
       try clear hcz16_0
       try clear hcz16_1
       try clear hcz18_0
       try clear hcz18_1
       try clear hcz23_0
       try clear hcz23_1
       try clear hfz12_0
       try clear hfz12_1
       try clear hfz14_0
       try clear hfz14_1
       try clear hfz16_0
       try clear hfz16_1
       try clear hfz18_0
       try clear hfz18_1
       try clear hfz23_0
       try clear hfz23_1
       try clear p2
       obtain ⟨x10_2, x11_2, rfl, HA, HK2, HO_10, BK525, HB⟩ := hrel
       cases gk with
       | zero => exact absurd HA.out (by simp [tollbarref4_Levels.l0])
       | succ k2 =>
        have H := HA.out
        clear HA
        simp only [tollbarref4_Levels.l0] at H
        by_cases c26 : x11_2 < a0_0
        ·
         rw [if_pos c26] at H
         have c26b0 : decide (x11_2 < a0_0) = true := decide_eq_true c26
         clear c26
         by_cases c27 : 0 ≤ x11_2
         ·
          rw [if_pos c27] at H
          have c27b0 : decide (0 ≤ x11_2) = true := decide_eq_true c27
          clear c27
          by_cases c28 : x11_2 < (x10_2.length : Int)
          ·
           rw [if_pos c28] at H
           have c28b0 : decide (x11_2 < (x10_2.length : Int)) = true := decide_eq_true c28
           clear c28
           obtain ⟨y532, hy532⟩ : ∃ y_ : List Int, y_ = (x10_2.set (x11_2 : Int).toNat (-1)) := ⟨_, rfl⟩
           replace H : (tollbarref4_Levels.l0 k2 l1 l2 a3 y532 (wrap64 (x11_2 + 1)) a0_0 l0_1) = some (r1, r2) := by first | (rw [hy532]; with_reducible exact H) | (have H2_ := (Option.bind_some _ _).symm.trans H; rw [hy532]; with_reducible exact H2_) | (have H2_ := (Option.bind_some _ _).symm.trans H; with_reducible exact H2_) | with_reducible exact H | (rw [hy532]; exact H) | exact H
           have Ny532 := Aside0.mk hy532
           clear hy532
           have H' := Aside0.mk H
           clear H
           have hcz30_0 : wr.cell? ⟨gb525, 0, none⟩ = some (.int .i64 a0_0) := (blk_cell BK525.out 0).trans rfl
           have hcz30_1 : wr.cell? ⟨gb525, 1, none⟩ = some (.slice A0_1 l0_1.length c0_1) := (blk_cell BK525.out 1).trans rfl
           have hfz30_0 := blk_frozen BK525.out 0
           have hfz30_1 := blk_frozen BK525.out 1
           have p29 : 0 ≤ (x11_2 : Int) := of_decide_eq_true (by first | (with_reducible assumption) | assumption)
           have q29 : (x11_2 : Int) < ((x10_2.length : Int) : Int) := of_decide_eq_true (by first | (with_reducible assumption) | assumption)
           obtain ⟨go29, co29, eo29, gb29, gl29, cl29, HG29⟩ := Kd.R_form HO_10.out (by omega)
           (first | cases eo29 | (injection eo29 with ea_ en_ ec_; (first | subst ea_ | (injection ea_ with ea_; subst ea_)); subst ec_; clear en_))
           have GB29 := Aside0.mk gb29
           have GG29 := Aside0.mk HG29
           clear gb29 gl29 HG29
           obtain ⟨hx29_0, hf29_0⟩ := Kd.R_celln 0 HO_10.out (x11_2 : Int) p29 q29
           replace p29 := eq_true p29
           replace q29 := eq_true q29
           have HP31 := Kd.R_putg HO_10.out (x11_2 : Int) (-1)
           go_wp2_with (first | ((with_reducible refine gate_store (t := 3) (p := 41) rfl ?_); refine store_event (t := 3) (p := 41) (v := ?vo_w32) (w1 := (wr.setCell ⟨go29, (x11_2 : Int).toNat, none⟩ (.int .i64 (-1)))) ?hg ?ho ?hn ?hr ?_; (case ho => rfl); (case hg => rfl); (case hn => rfl); (case hr => first | (go_simp; done) | (go_simp; rfl)); intro w32 hw; have hg : wr.grownBy w32 (some go29) := (by rw [hw]; exact HP31.2); have hp_ : Kd.R (Kd.int .i64) 3 w32 w.heap.size (fun _ => True) (.slice (some ⟨go29, 0, none⟩) x10_2.length co29) y532 := (by rw [hw, Ny532.out]; exact HP31.1); clear HP31; have n0_ := Aside0.mk (hp_); have n1_ := Aside0.mk (blk_grown (g := gb525) (o := .cells #[.int .i64 a0_0, .slice A0_1 l0_1.length c0_1] 24 (0, 0)) (by (with_reducible repeat (first | refine blk_drewN ?_ _ | refine blk_drew ?_ | refine blk_alloc ?_ _)); exact BK525.out) hg (Kd.R_ne HO_10.out BK525.out (by decide))); have n2_ := Aside0.mk ((by rw [hw]; exact below_set (HB.out) GB29.out : Below w.heap.size w w32)); clear HO_10; clear BK525; clear HB; have HO_10 := n0_; have BK525 := n1_; have HB := n2_; clear n0_ n1_ n2_; clear hg hw hp_))
           go_roundg k2
           case measure => have := HJ4.out; have := HK2.out; omega
           case rel => exact ⟨(y532), (wrap64 (x11_2 + 1)), (by first | rfl | (simp; done) | (simp [*]; done)), H', ⟨by have := HJ4.out; have := HK2.out; omega⟩, ⟨by (with_reducible repeat (first | apply Kd.R_alloc | apply Kd.R_drewN | apply Kd.R_drew)); exact HO_10.out⟩, ⟨by (with_reducible repeat (first | refine blk_drewN ?_ _ | refine blk_drew ?_ | refine blk_alloc ?_ _)); exact BK525.out⟩, ⟨by repeat (first | (with_reducible first | exact HB.out | apply below_alloc | apply pw_below_drewN | apply below_drew1 | refine below_set ?_ GE525.out) | exact HB.out)⟩⟩
          ·
           rw [if_neg c28] at H
           exact absurd H (by simp)
         ·
          rw [if_neg c27] at H
          exact absurd H (by simp)
        ·
         rw [if_neg c26] at H
         have c26b0 : decide (x11_2 < a0_0) = false := decide_eq_false c26
         clear c26
         by_cases c33 : 0 ≤ a3
         ·
          rw [if_pos c33] at H
          have c33b0 : decide (0 ≤ a3) = true := decide_eq_true c33
          clear c33
          by_cases c34 : a3 < (x10_2.length : Int)
          ·
           rw [if_pos c34] at H
           have c34b0 : decide (a3 < (x10_2.length : Int)) = true := decide_eq_true c34
           clear c34
           obtain ⟨y533, hy533⟩ : ∃ y_ : List Int, y_ = (x10_2.set (a3 : Int).toNat 0) := ⟨_, rfl⟩
           replace H : (tollbarref4_Levels.l1 k2 l1 l2 y533 0 a0_0 l0_1) = some (r1, r2) := by first | (rw [hy533]; with_reducible exact H) | (have H2_ := (Option.bind_some _ _).symm.trans H; rw [hy533]; with_reducible exact H2_) | (have H2_ := (Option.bind_some _ _).symm.trans H; with_reducible exact H2_) | with_reducible exact H | (rw [hy533]; exact H) | exact H
           have Ny533 := Aside0.mk hy533
           clear hy533
           have H' := Aside0.mk H
           clear H
           have hcz36_0 : wr.cell? ⟨gb525, 0, none⟩ = some (.int .i64 a0_0) := (blk_cell BK525.out 0).trans rfl
           have hcz36_1 : wr.cell? ⟨gb525, 1, none⟩ = some (.slice A0_1 l0_1.length c0_1) := (blk_cell BK525.out 1).trans rfl
           have hfz36_0 := blk_frozen BK525.out 0
           have hfz36_1 := blk_frozen BK525.out 1
           have p35 : 0 ≤ (a3 : Int) := of_decide_eq_true (by first | (with_reducible assumption) | assumption)
           have q35 : (a3 : Int) < ((x10_2.length : Int) : Int) := of_decide_eq_true (by first | (with_reducible assumption) | assumption)
           obtain ⟨go35, co35, eo35, gb35, gl35, cl35, HG35⟩ := Kd.R_form HO_10.out (by omega)
           (first | cases eo35 | (injection eo35 with ea_ en_ ec_; (first | subst ea_ | (injection ea_ with ea_; subst ea_)); subst ec_; clear en_))
           have GB35 := Aside0.mk gb35
           have GG35 := Aside0.mk HG35
           clear gb35 gl35 HG35
           obtain ⟨hx35_0, hf35_0⟩ := Kd.R_celln 0 HO_10.out (a3 : Int) p35 q35
           replace p35 := eq_true p35
           replace q35 := eq_true q35
           have HP37 := Kd.R_putg HO_10.out (a3 : Int) 0
           go_wp2_with (first | ((with_reducible refine gate_store (t := 3) (p := 44) rfl ?_); refine store_event (t := 3) (p := 44) (v := ?vo_w38) (w1 := (wr.setCell ⟨go35, (a3 : Int).toNat, none⟩ (.int .i64 0))) ?hg ?ho ?hn ?hr ?_; (case ho => rfl); (case hg => rfl); (case hn => rfl); (case hr => first | (go_simp; done) | (go_simp; rfl)); intro w38 hw; have hg : wr.grownBy w38 (some go35) := (by rw [hw]; exact HP37.2); have hp_ : Kd.R (Kd.int .i64) 3 w38 w.heap.size (fun _ => True) (.slice (some ⟨go35, 0, none⟩) x10_2.length co35) y533 := (by rw [hw, Ny533.out]; exact HP37.1); clear HP37; have n0_ := Aside0.mk (hp_); have n1_ := Aside0.mk (blk_grown (g := gb525) (o := .cells #[.int .i64 a0_0, .slice A0_1 l0_1.length c0_1] 24 (0, 0)) (by (with_reducible repeat (first | refine blk_drewN ?_ _ | refine blk_drew ?_ | refine blk_alloc ?_ _)); exact BK525.out) hg (Kd.R_ne HO_10.out BK525.out (by decide))); have n2_ := Aside0.mk ((by rw [hw]; exact below_set (HB.out) GB35.out : Below w.heap.size w w38)); clear HO_10; clear BK525; clear HB; have HO_10 := n0_; have BK525 := n1_; have HB := n2_; clear n0_ n1_ n2_; clear hg hw hp_))
           go_loopg [12] k2 (fun kq v12 w' => ∃ (x10_3 : List Int) (x12_3 : Int), v12 = .int .i64 x12_3 ∧ Aside0 (tollbarref4_Levels.l1 kq l1 l2 x10_3 x12_3 a0_0 l0_1 = some (r1, r2)) ∧ Aside0 (kq ≤ k2) ∧ Aside0 (Kd.R (Kd.int .i64) 3 w' w.heap.size (fun _ => True) (.slice (some ⟨go35, 0, none⟩) x10_2.length co35) x10_3) ∧ Aside0 (w'.heap[gb525]? = some (.cells #[.int .i64 a0_0, (.slice A0_1 l0_1.length c0_1)] 24 (0, 0))) ∧ Aside0 (Below w.heap.size w w'))
           case atStart => exact ⟨(y533), (0), (by first | rfl | (simp; done) | (simp [*]; done)), H', ⟨Nat.le_refl _⟩, ⟨by (with_reducible repeat (first | apply Kd.R_alloc | apply Kd.R_drewN | apply Kd.R_drew)); exact HO_10.out⟩, ⟨by (with_reducible repeat (first | refine blk_drewN ?_ _ | refine blk_drew ?_ | refine blk_alloc ?_ _)); exact BK525.out⟩, ⟨by repeat (first | (with_reducible first | exact HB.out | apply below_alloc | apply pw_below_drewN | apply below_drew1 | refine below_set ?_ GE525.out) | exact HB.out)⟩⟩
           case round =>
            clear H'
            try clear c1
            try clear c2
            try clear p2
            try clear q2
            try clear hx2
            try clear c3
            try clear p3
            try clear q3
            try clear hx3
            try clear p6
            try clear c8
            try clear c10
            try clear c20
            try clear c21
            try clear c21b0
            try clear c21b1
            try clear c22
            try clear c22b0
            try clear c22b1
            try clear c26
            try clear c26b0
            try clear c27
            try clear c27b0
            try clear c28
            try clear c28b0
            try clear p29
            try clear q29
            try clear hx29
            try clear hf29
            try clear c31
            try clear c33
            try clear c33b0
            try clear c34
            try clear c34b0
            try clear p35
            try clear q35
            try clear hx35
            try clear hf35
            try clear hcz12_0
            try clear hcz12_1
            try clear hcz14_0
            try clear hcz14_1
            try clear hcz16_0
            try clear hcz16_1
            try clear hcz18_0
            try clear hcz18_1
            try clear hcz23_0
            try clear hcz23_1
            try clear hcz30_0
            try clear hcz30_1
            try clear hcz36_0
            try clear hcz36_1
            try clear hfz12_0
            try clear hfz12_1
            try clear hfz14_0
            try clear hfz14_1
            try clear hfz16_0
            try clear hfz16_1
            try clear hfz18_0
            try clear hfz18_1
            try clear hfz23_0
            try clear hfz23_1
            try clear hfz30_0
            try clear hfz30_1
            try clear hfz36_0
            try clear hfz36_1
            try clear hx29_0
            try clear hx35_0
            try clear p2
            try clear p29
            try clear p35
            try clear q29
            try clear q35
            obtain ⟨x10_3, x12_3, rfl, HA, HK3, HO_10, BK525, HB⟩ := hrel
            have hl10_3 := (Kd.R_reads' HO_10.out).1
            rw [hl10_3] at HO_10
            (try simp only [hl10_3])
            (try simp only [hl10_3] at BK525)
            cases gk with
            | zero => exact absurd HA.out (by simp [tollbarref4_Levels.l1])
            | succ k3 =>
             have H := HA.out
             clear HA
             simp only [tollbarref4_Levels.l1] at H
             by_cases c39 : x12_3 < a0_0
             ·
              rw [if_pos c39] at H
              have c39b0 : decide (x12_3 < a0_0) = true := decide_eq_true c39
              clear c39
              have H' := Aside0.mk H
              clear H
              have hcz40_0 : wr.cell? ⟨gb525, 0, none⟩ = some (.int .i64 a0_0) := (blk_cell BK525.out 0).trans rfl
              have hcz40_1 : wr.cell? ⟨gb525, 1, none⟩ = some (.slice A0_1 l0_1.length c0_1) := (blk_cell BK525.out 1).trans rfl
              have hfz40_0 := blk_frozen BK525.out 0
              have hfz40_1 := blk_frozen BK525.out 1
              go_wp2
              go_loopg [13] k3 (fun kq v13 w' => ∃ (x10_4 : List Int) (x13_4 : Int), v13 = .int .i64 x13_4 ∧ Aside0 (tollbarref4_Levels.l2 kq l1 l2 x10_4 x12_3 x13_4 a0_0 l0_1 = some (r1, r2)) ∧ Aside0 (kq ≤ k3) ∧ Aside0 (Kd.R (Kd.int .i64) 3 w' w.heap.size (fun _ => True) (.slice (some ⟨go35, 0, none⟩) x10_3.length co35) x10_4) ∧ Aside0 (w'.heap[gb525]? = some (.cells #[.int .i64 a0_0, (.slice A0_1 l0_1.length c0_1)] 24 (0, 0))) ∧ Aside0 (Below w.heap.size w w'))
              case atStart => exact ⟨(x10_3), (0), (by first | rfl | (simp; done) | (simp [*]; done)), H', ⟨Nat.le_refl _⟩, ⟨by (try simp only [hl10_3]); (with_reducible repeat (first | apply Kd.R_alloc | apply Kd.R_drewN | apply Kd.R_drew)); exact HO_10.out⟩, ⟨by (try simp only [hl10_3]); (with_reducible repeat (first | refine blk_drewN ?_ _ | refine blk_drew ?_ | refine blk_alloc ?_ _)); exact BK525.out⟩, ⟨by repeat (first | (with_reducible first | exact HB.out | apply below_alloc | apply pw_below_drewN | apply below_drew1 | refine below_set ?_ GE525.out) | exact HB.out)⟩⟩
              case round =>
               clear H'
               try clear c1
               try clear c2
               try clear p2
               try clear q2
               try clear hx2
               try clear c3
               try clear p3
               try clear q3
               try clear hx3
               try clear p6
               try clear c8
               try clear c10
               try clear c20
               try clear c21
               try clear c21b0
               try clear c21b1
               try clear c22
               try clear c22b0
               try clear c22b1
               try clear c26
               try clear c26b0
               try clear c27
               try clear c27b0
               try clear c28
               try clear c28b0
               try clear p29
               try clear q29
               try clear hx29
               try clear hf29
               try clear c31
               try clear c33
               try clear c33b0
               try clear c34
               try clear c34b0
               try clear p35
               try clear q35
               try clear hx35
               try clear hf35
               try clear c39
               try clear c39b0
               try clear hcz12_0
               try clear hcz12_1
               try clear hcz14_0
               try clear hcz14_1
               try clear hcz16_0
               try clear hcz16_1
               try clear hcz18_0
               try clear hcz18_1
               try clear hcz23_0
               try clear hcz23_1
               try clear hcz30_0
               try clear hcz30_1
               try clear hcz36_0
               try clear hcz36_1
               try clear hcz40_0
               try clear hcz40_1
               try clear hfz12_0
               try clear hfz12_1
               try clear hfz14_0
               try clear hfz14_1
               try clear hfz16_0
               try clear hfz16_1
               try clear hfz18_0
               try clear hfz18_1
               try clear hfz23_0
               try clear hfz23_1
               try clear hfz30_0
               try clear hfz30_1
               try clear hfz36_0
               try clear hfz36_1
               try clear hfz40_0
               try clear hfz40_1
               try clear hx29_0
               try clear hx35_0
               try clear p2
               try clear p29
               try clear p3
               try clear p35
               try clear p6
               try clear q2
               try clear q29
               try clear q3
               try clear q35
               obtain ⟨x10_4, x13_4, rfl, HA, HK4, HO_10, BK525, HB⟩ := hrel
               have hl10_4 := (Kd.R_reads' HO_10.out).1
               rw [hl10_4] at HO_10
               (try simp only [hl10_4])
               (try simp only [hl10_4] at BK525)
               cases gk with
               | zero => exact absurd HA.out (by simp [tollbarref4_Levels.l2])
               | succ k4 =>
                have H := HA.out
                clear HA
                simp only [tollbarref4_Levels.l2] at H
                by_cases c41 : x13_4 < (wrap64 (2 * (l0_1.length : Int)))
                ·
                 rw [if_pos c41] at H
                 have c41b0 : decide (x13_4 < (wrap64 (2 * (l0_1.length : Int)))) = true := decide_eq_true c41
                 clear c41
                 replace H := Option.bind_eq_some_iff.mp H
                 obtain ⟨t534, A420, H⟩ := H
                 replace H : (if 0 ≤ t534 then (if t534 < (x10_4.length : Int) then (if (rd x10_4 t534) = x12_3 then ((tollbarref4_room.f l1 l2 x13_4).bind fun t536 => (if t536 > 0 then ((tollbarref4_Head.f a0_0 l0_1 x13_4).bind fun t537 => (if 0 ≤ t537 then (if t537 < (x10_4.length : Int) then (if (rd x10_4 t537) < 0 then ((tollbarref4_Head.f a0_0 l0_1 x13_4).bind fun t539 => (if 0 ≤ t539 then (if t539 < (x10_4.length : Int) then (tollbarref4_Levels.l2 k4 l1 l2 (x10_4.set (t539 : Int).toNat (wrap64 (x12_3 + 1))) x12_3 (wrap64 (x13_4 + 1)) a0_0 l0_1) else (none)) else (none))) else (tollbarref4_Levels.l2 k4 l1 l2 x10_4 x12_3 (wrap64 (x13_4 + 1)) a0_0 l0_1)) else (none)) else (none))) else (tollbarref4_Levels.l2 k4 l1 l2 x10_4 x12_3 (wrap64 (x13_4 + 1)) a0_0 l0_1))) else (tollbarref4_Levels.l2 k4 l1 l2 x10_4 x12_3 (wrap64 (x13_4 + 1)) a0_0 l0_1)) else (none)) else (none)) = some (r1, r2) := H
                 have A42 := Aside0.mk A420
                 clear A420
                 by_cases c43 : 0 ≤ t534
                 ·
                  rw [if_pos c43] at H
                  have c43b0 : decide (0 ≤ t534) = true := decide_eq_true c43
                  clear c43
                  by_cases c44 : t534 < (x10_4.length : Int)
                  ·
                   rw [if_pos c44] at H
                   have c44b0 : decide (t534 < (x10_4.length : Int)) = true := decide_eq_true c44
                   clear c44
                   by_cases c45 : (rd x10_4 t534) = x12_3
                   ·
                    rw [if_pos c45] at H
                    have c45b0 : ((rd x10_4 t534) == x12_3) = true := beq_iff_eq.mpr c45
                    have c45b1 : ((rd x10_4 t534) != x12_3) = false := bne_eq_false_iff_eq.mpr c45
                    clear c45
                    replace H := Option.bind_eq_some_iff.mp H
                    obtain ⟨t536, A460, H⟩ := H
                    replace H : (if t536 > 0 then ((tollbarref4_Head.f a0_0 l0_1 x13_4).bind fun t537 => (if 0 ≤ t537 then (if t537 < (x10_4.length : Int) then (if (rd x10_4 t537) < 0 then ((tollbarref4_Head.f a0_0 l0_1 x13_4).bind fun t539 => (if 0 ≤ t539 then (if t539 < (x10_4.length : Int) then (tollbarref4_Levels.l2 k4 l1 l2 (x10_4.set (t539 : Int).toNat (wrap64 (x12_3 + 1))) x12_3 (wrap64 (x13_4 + 1)) a0_0 l0_1) else (none)) else (none))) else (tollbarref4_Levels.l2 k4 l1 l2 x10_4 x12_3 (wrap64 (x13_4 + 1)) a0_0 l0_1)) else (none)) else (none))) else (tollbarref4_Levels.l2 k4 l1 l2 x10_4 x12_3 (wrap64 (x13_4 + 1)) a0_0 l0_1)) = some (r1, r2) := H
                    have A46 := Aside0.mk A460
                    clear A460
                    by_cases c47 : t536 > 0
                    ·
                     rw [if_pos c47] at H
                     have c47b0 : decide (0 < t536) = true := decide_eq_true c47
                     clear c47
                     replace H := Option.bind_eq_some_iff.mp H
                     obtain ⟨t537, A480, H⟩ := H
                     replace H : (if 0 ≤ t537 then (if t537 < (x10_4.length : Int) then (if (rd x10_4 t537) < 0 then ((tollbarref4_Head.f a0_0 l0_1 x13_4).bind fun t539 => (if 0 ≤ t539 then (if t539 < (x10_4.length : Int) then (tollbarref4_Levels.l2 k4 l1 l2 (x10_4.set (t539 : Int).toNat (wrap64 (x12_3 + 1))) x12_3 (wrap64 (x13_4 + 1)) a0_0 l0_1) else (none)) else (none))) else (tollbarref4_Levels.l2 k4 l1 l2 x10_4 x12_3 (wrap64 (x13_4 + 1)) a0_0 l0_1)) else (none)) else (none)) = some (r1, r2) := H
                     have A48 := Aside0.mk A480
                     clear A480
                     by_cases c49 : 0 ≤ t537
                     ·
                      rw [if_pos c49] at H
                      have c49b0 : decide (0 ≤ t537) = true := decide_eq_true c49
                      clear c49
                      by_cases c50 : t537 < (x10_4.length : Int)
                      ·
                       rw [if_pos c50] at H
                       have c50b0 : decide (t537 < (x10_4.length : Int)) = true := decide_eq_true c50
                       clear c50
                       by_cases c51 : (rd x10_4 t537) < 0
                       ·
                        rw [if_pos c51] at H
                        have c51b0 : decide ((rd x10_4 t537) < 0) = true := decide_eq_true c51
                        clear c51
                        replace H := Option.bind_eq_some_iff.mp H
                        obtain ⟨t539, A520, H⟩ := H
                        replace H : (if 0 ≤ t539 then (if t539 < (x10_4.length : Int) then (tollbarref4_Levels.l2 k4 l1 l2 (x10_4.set (t539 : Int).toNat (wrap64 (x12_3 + 1))) x12_3 (wrap64 (x13_4 + 1)) a0_0 l0_1) else (none)) else (none)) = some (r1, r2) := H
                        have A52 := Aside0.mk A520
                        clear A520
                        by_cases c53 : 0 ≤ t539
                        ·
                         rw [if_pos c53] at H
                         have c53b0 : decide (0 ≤ t539) = true := decide_eq_true c53
                         clear c53
                         by_cases c54 : t539 < (x10_4.length : Int)
                         ·
                          rw [if_pos c54] at H
                          have c54b0 : decide (t539 < (x10_4.length : Int)) = true := decide_eq_true c54
                          clear c54
                          obtain ⟨y540, hy540⟩ : ∃ y_ : List Int, y_ = (x10_4.set (t539 : Int).toNat (wrap64 (x12_3 + 1))) := ⟨_, rfl⟩
                          replace H : (tollbarref4_Levels.l2 k4 l1 l2 y540 x12_3 (wrap64 (x13_4 + 1)) a0_0 l0_1) = some (r1, r2) := by first | (rw [hy540]; with_reducible exact H) | (have H2_ := (Option.bind_some _ _).symm.trans H; rw [hy540]; with_reducible exact H2_) | (have H2_ := (Option.bind_some _ _).symm.trans H; with_reducible exact H2_) | with_reducible exact H | (rw [hy540]; exact H) | exact H
                          have Ny540 := Aside0.mk hy540
                          clear hy540
                          have H' := Aside0.mk H
                          clear H
                          have hcz56_0 : wr.cell? ⟨gb525, 0, none⟩ = some (.int .i64 a0_0) := (blk_cell BK525.out 0).trans rfl
                          have hcz56_1 : wr.cell? ⟨gb525, 1, none⟩ = some (.slice A0_1 l0_1.length c0_1) := (blk_cell BK525.out 1).trans rfl
                          have hfz56_0 := blk_frozen BK525.out 0
                          have hfz56_1 := blk_frozen BK525.out 1
                          go_wp2_with (first | ((with_reducible refine gate_callee (f := 29) rfl ?_); refine goesL_ (some 62) rfl rfl Try.func29 (by kernel_rfl) rfl #[.agg #[.int .i64 a0_0, .slice A0_1 l0_1.length c0_1], .int .i64 x13_4] rfl (by (try simp only [List.map_toArray, List.map_cons, List.map_nil]); first | done | rfl | (simp only [List.length_drop, List.length_take]; rfl)) ?_; (with_reducible refine (tollbarref4_Tail.calls a0_0 _ _ l0_1 x13_4 t534 _ ?side1 ?side2 A42.out).mono ?_); (case side1 => repeat (first | exact (Kd.C_below HR0_1.out HB.out) | (with_reducible refine Kd.C_alloc ?_ _) | (with_reducible refine Kd.C_drewN ?_ _) | (with_reducible refine Kd.C_drew ?_))); (case side2 => exact HC0_1.out); rintro e w57 ⟨rfl, hb⟩; refine ⟨_, rfl, ?_⟩; have n0_ := Aside0.mk (Kd.R_below (by (with_reducible repeat (first | apply Kd.R_alloc | apply Kd.R_drewN | apply Kd.R_drew)); exact HO_10.out) hb); have n1_ := Aside0.mk (blk_below (g := gb525) (o := .cells #[.int .i64 a0_0, .slice A0_1 l0_1.length c0_1] 24 (0, 0)) (by (with_reducible repeat (first | refine blk_drewN ?_ _ | refine blk_drew ?_ | refine blk_alloc ?_ _)); exact BK525.out) hb); have n2_ := Aside0.mk (below_step (by repeat (first | (with_reducible first | exact HB.out | apply below_alloc | apply pw_below_drewN | apply below_drew1 | refine below_set ?_ GE525.out) | exact HB.out)) hb); clear HO_10; clear BK525; clear HB; have HO_10 := n0_; have BK525 := n1_; have HB := n2_; clear n0_ n1_ n2_; (try clear hb); (try clear hb2); (try clear hk); (try clear hi); have p535 : 0 ≤ (t534 : Int) := of_decide_eq_true (by first | (with_reducible assumption) | assumption); have q535 : t534 < (x10_4.length : Int) := of_decide_eq_true (by first | (with_reducible assumption) | assumption); obtain ⟨ad535, e535, hx535_0⟩ := Kd.at_int (Kd.R_reads' HO_10.out).2.2 t534 p535 q535; obtain rfl : (⟨go35, 0, none⟩ : Addr) = ad535 := (by injection e535); (first | simp only [add_plain] at hx535_0 | simp only [add_at] at hx535_0 | simp only [Addr.add, Nat.zero_add] at hx535_0 | skip); replace p535 := eq_true p535; replace q535 := eq_true q535) | (go_at_call 45; (with_reducible refine (tollbarref4_room.calls _ _ l1 _ _ l2 x13_4 t536 _ ?side1 ?side2 ?side3 ?side4 A46.out).mono ?_); (case side1 => repeat (first | exact (Kd.C_below HR1.out HB.out) | (with_reducible refine Kd.C_alloc ?_ _) | (with_reducible refine Kd.C_drewN ?_ _) | (with_reducible refine Kd.C_drew ?_))); (case side2 => exact HC1.out); (case side3 => repeat (first | exact (Kd.C_below HR2.out HB.out) | (with_reducible refine Kd.C_alloc ?_ _) | (with_reducible refine Kd.C_drewN ?_ _) | (with_reducible refine Kd.C_drew ?_))); (case side4 => exact HC2.out); rintro e w' ⟨rfl, ⟨nd, rfl⟩⟩; (try (rw [drewN_self w57]; generalize hq_ : World.drewN w57 _ = w57; have n0_ : Aside0 (Kd.R (Kd.int .i64) 3 w57 w.heap.size (fun _ => True) (.slice (some ⟨go35, 0, none⟩) x10_4.length co35) x10_4) := ⟨by rw [← hq_]; exact (by (with_reducible repeat (first | apply Kd.R_alloc | apply Kd.R_drewN | apply Kd.R_drew)); exact HO_10.out)⟩; have n1_ : Aside0 (w57.heap[gb525]? = some (.cells #[.int .i64 a0_0, .slice A0_1 l0_1.length c0_1] 24 (0, 0))) := ⟨by rw [← hq_]; exact (by (with_reducible repeat (first | refine blk_drewN ?_ _ | refine blk_drew ?_ | refine blk_alloc ?_ _)); exact BK525.out)⟩; have n2_ : Aside0 (Below w.heap.size w w57) := ⟨by rw [← hq_]; exact (by repeat (first | (with_reducible first | exact HB.out | apply below_alloc | apply pw_below_drewN | apply below_drew1 | refine below_set ?_ GE525.out) | exact HB.out))⟩; clear HO_10 BK525 HB hq_; have HO_10 := n0_; have BK525 := n1_; have HB := n2_; clear n0_ n1_ n2_)); have hcz58_0 : w57.cell? ⟨gb525, 0, none⟩ = some (.int .i64 a0_0) := (blk_cell BK525.out 0).trans rfl; have hcz58_1 : w57.cell? ⟨gb525, 1, none⟩ = some (.slice A0_1 l0_1.length c0_1) := (blk_cell BK525.out 1).trans rfl; have hfz58_0 := blk_frozen BK525.out 0; have hfz58_1 := blk_frozen BK525.out 1) | (go_at_call 30; (with_reducible refine (tollbarref4_Head.calls a0_0 _ _ l0_1 x13_4 t537 _ ?side1 ?side2 A48.out).mono ?_); (case side1 => repeat (first | exact (Kd.C_below HR0_1.out HB.out) | (with_reducible refine Kd.C_alloc ?_ _) | (with_reducible refine Kd.C_drewN ?_ _) | (with_reducible refine Kd.C_drew ?_))); (case side2 => exact HC0_1.out); rintro e w59 ⟨rfl, hb⟩; have n0_ := Aside0.mk (Kd.R_below (by (with_reducible repeat (first | apply Kd.R_alloc | apply Kd.R_drewN | apply Kd.R_drew)); exact HO_10.out) hb); have n1_ := Aside0.mk (blk_below (g := gb525) (o := .cells #[.int .i64 a0_0, .slice A0_1 l0_1.length c0_1] 24 (0, 0)) (by (with_reducible repeat (first | refine blk_drewN ?_ _ | refine blk_drew ?_ | refine blk_alloc ?_ _)); exact BK525.out) hb); have n2_ := Aside0.mk (below_step (by repeat (first | (with_reducible first | exact HB.out | apply below_alloc | apply pw_below_drewN | apply below_drew1 | refine below_set ?_ GE525.out) | exact HB.out)) hb); clear HO_10; clear BK525; clear HB; have HO_10 := n0_; have BK525 := n1_; have HB := n2_; clear n0_ n1_ n2_; (try clear hb); (try clear hb2); (try clear hk); (try clear hi); have p538 : 0 ≤ (t537 : Int) := of_decide_eq_true (by first | (with_reducible assumption) | assumption); have q538 : t537 < (x10_4.length : Int) := of_decide_eq_true (by first | (with_reducible assumption) | assumption); obtain ⟨ad538, e538, hx538_0⟩ := Kd.at_int (Kd.R_reads' HO_10.out).2.2 t537 p538 q538; obtain rfl : (⟨go35, 0, none⟩ : Addr) = ad538 := (by injection e538); (first | simp only [add_plain] at hx538_0 | simp only [add_at] at hx538_0 | simp only [Addr.add, Nat.zero_add] at hx538_0 | skip); replace p538 := eq_true p538; replace q538 := eq_true q538; have hcz60_0 : w59.cell? ⟨gb525, 0, none⟩ = some (.int .i64 a0_0) := (blk_cell BK525.out 0).trans rfl; have hcz60_1 : w59.cell? ⟨gb525, 1, none⟩ = some (.slice A0_1 l0_1.length c0_1) := (blk_cell BK525.out 1).trans rfl; have hfz60_0 := blk_frozen BK525.out 0; have hfz60_1 := blk_frozen BK525.out 1) | ((with_reducible refine gate_callee (f := 30) rfl ?_); refine goesL_ (some 86) rfl rfl Try.func30 (by kernel_rfl) rfl #[.agg #[.int .i64 a0_0, .slice A0_1 l0_1.length c0_1], .int .i64 x13_4] rfl (by (try simp only [List.map_toArray, List.map_cons, List.map_nil]); first | done | rfl | (simp only [List.length_drop, List.length_take]; rfl)) ?_; (with_reducible refine (tollbarref4_Head.calls a0_0 _ _ l0_1 x13_4 t539 _ ?side1 ?side2 A52.out).mono ?_); (case side1 => repeat (first | exact (Kd.C_below HR0_1.out HB.out) | (with_reducible refine Kd.C_alloc ?_ _) | (with_reducible refine Kd.C_drewN ?_ _) | (with_reducible refine Kd.C_drew ?_))); (case side2 => exact HC0_1.out); rintro e w61 ⟨rfl, hb⟩; refine ⟨_, rfl, ?_⟩; have n0_ := Aside0.mk (Kd.R_below (by (with_reducible repeat (first | apply Kd.R_alloc | apply Kd.R_drewN | apply Kd.R_drew)); exact HO_10.out) hb); have n1_ := Aside0.mk (blk_below (g := gb525) (o := .cells #[.int .i64 a0_0, .slice A0_1 l0_1.length c0_1] 24 (0, 0)) (by (with_reducible repeat (first | refine blk_drewN ?_ _ | refine blk_drew ?_ | refine blk_alloc ?_ _)); exact BK525.out) hb); have n2_ := Aside0.mk (below_step (by repeat (first | (with_reducible first | exact HB.out | apply below_alloc | apply pw_below_drewN | apply below_drew1 | refine below_set ?_ GE525.out) | exact HB.out)) hb); clear HO_10; clear BK525; clear HB; have HO_10 := n0_; have BK525 := n1_; have HB := n2_; clear n0_ n1_ n2_; (try clear hb); (try clear hb2); (try clear hk); (try clear hi); have p55 : 0 ≤ (t539 : Int) := of_decide_eq_true (by first | (with_reducible assumption) | assumption); have q55 : (t539 : Int) < ((x10_4.length : Int) : Int) := of_decide_eq_true (by first | (with_reducible assumption) | assumption); obtain ⟨hx55_0, hf55_0⟩ := Kd.R_celln 0 HO_10.out (t539 : Int) p55 q55; replace p55 := eq_true p55; replace q55 := eq_true q55; obtain ⟨hy62_, hz62_⟩ := Kd.R_celln 0 HO_10.out (t539 : Int) (of_decide_eq_true (by first | (with_reducible assumption) | assumption)) (of_decide_eq_true (by first | (with_reducible assumption) | assumption)); have HP62 := Kd.R_putg HO_10.out (t539 : Int) (wrap64 (x12_3 + 1))) | ((with_reducible refine gate_store (t := 3) (p := 89) rfl ?_); refine store_event (t := 3) (p := 89) (v := ?vo_w63) (w1 := (w61.setCell ⟨go35, (t539 : Int).toNat, none⟩ (.int .i64 (wrap64 (x12_3 + 1))))) ?hg ?ho ?hn ?hr ?_; (case ho => rfl); (case hg => rfl); (case hn => rfl); (case hr => first | (go_simp; done) | (go_simp; rfl)); intro w63 hw; have hg : w61.grownBy w63 (some go35) := (by rw [hw]; exact HP62.2); have hp_ : Kd.R (Kd.int .i64) 3 w63 w.heap.size (fun _ => True) (.slice (some ⟨go35, 0, none⟩) x10_4.length co35) y540 := (by rw [hw, Ny540.out]; exact HP62.1); clear HP62; have n0_ := Aside0.mk (hp_); have n1_ := Aside0.mk (blk_grown (g := gb525) (o := .cells #[.int .i64 a0_0, .slice A0_1 l0_1.length c0_1] 24 (0, 0)) (by (with_reducible repeat (first | refine blk_drewN ?_ _ | refine blk_drew ?_ | refine blk_alloc ?_ _)); exact BK525.out) hg (Kd.R_ne HO_10.out BK525.out (by decide))); have n2_ := Aside0.mk ((by rw [hw]; exact below_set (HB.out) GB35.out : Below w.heap.size w w63)); clear HO_10; clear BK525; clear HB; have HO_10 := n0_; have BK525 := n1_; have HB := n2_; clear n0_ n1_ n2_; clear hg hw hp_))
                          (try simp only [← hl10_4])
                          go_roundg k4
                          case measure => have := HJ4.out; have := HK2.out; have := HK3.out; have := HK4.out; omega
                          case rel => exact ⟨(y540), (wrap64 (x13_4 + 1)), (by first | rfl | (simp; done) | (simp [*]; done)), H', ⟨by have := HJ4.out; have := HK2.out; have := HK3.out; have := HK4.out; omega⟩, ⟨by (try simp only [hl10_3]); (try simp only [hl10_4]); (with_reducible repeat (first | apply Kd.R_alloc | apply Kd.R_drewN | apply Kd.R_drew)); exact HO_10.out⟩, ⟨by (try simp only [hl10_3]); (try simp only [hl10_4]); (with_reducible repeat (first | refine blk_drewN ?_ _ | refine blk_drew ?_ | refine blk_alloc ?_ _)); exact BK525.out⟩, ⟨by repeat (first | (with_reducible first | exact HB.out | apply below_alloc | apply pw_below_drewN | apply below_drew1 | refine below_set ?_ GE525.out) | exact HB.out)⟩⟩
                         ·
                          rw [if_neg c54] at H
                          exact absurd H (by simp)
                        ·
                         rw [if_neg c53] at H
                         exact absurd H (by simp)
                       ·
                        rw [if_neg c51] at H
                        have c51b0 : decide ((rd x10_4 t537) < 0) = false := decide_eq_false c51
                        clear c51
                        have H' := Aside0.mk H
                        clear H
                        have hcz64_0 : wr.cell? ⟨gb525, 0, none⟩ = some (.int .i64 a0_0) := (blk_cell BK525.out 0).trans rfl
                        have hcz64_1 : wr.cell? ⟨gb525, 1, none⟩ = some (.slice A0_1 l0_1.length c0_1) := (blk_cell BK525.out 1).trans rfl
                        have hfz64_0 := blk_frozen BK525.out 0
                        have hfz64_1 := blk_frozen BK525.out 1
                        go_wp2_with (first | ((with_reducible refine gate_callee (f := 29) rfl ?_); refine goesL_ (some 62) rfl rfl Try.func29 (by kernel_rfl) rfl #[.agg #[.int .i64 a0_0, .slice A0_1 l0_1.length c0_1], .int .i64 x13_4] rfl (by (try simp only [List.map_toArray, List.map_cons, List.map_nil]); first | done | rfl | (simp only [List.length_drop, List.length_take]; rfl)) ?_; (with_reducible refine (tollbarref4_Tail.calls a0_0 _ _ l0_1 x13_4 t534 _ ?side1 ?side2 A42.out).mono ?_); (case side1 => repeat (first | exact (Kd.C_below HR0_1.out HB.out) | (with_reducible refine Kd.C_alloc ?_ _) | (with_reducible refine Kd.C_drewN ?_ _) | (with_reducible refine Kd.C_drew ?_))); (case side2 => exact HC0_1.out); rintro e w65 ⟨rfl, hb⟩; refine ⟨_, rfl, ?_⟩; have n0_ := Aside0.mk (Kd.R_below (by (with_reducible repeat (first | apply Kd.R_alloc | apply Kd.R_drewN | apply Kd.R_drew)); exact HO_10.out) hb); have n1_ := Aside0.mk (blk_below (g := gb525) (o := .cells #[.int .i64 a0_0, .slice A0_1 l0_1.length c0_1] 24 (0, 0)) (by (with_reducible repeat (first | refine blk_drewN ?_ _ | refine blk_drew ?_ | refine blk_alloc ?_ _)); exact BK525.out) hb); have n2_ := Aside0.mk (below_step (by repeat (first | (with_reducible first | exact HB.out | apply below_alloc | apply pw_below_drewN | apply below_drew1 | refine below_set ?_ GE525.out) | exact HB.out)) hb); clear HO_10; clear BK525; clear HB; have HO_10 := n0_; have BK525 := n1_; have HB := n2_; clear n0_ n1_ n2_; (try clear hb); (try clear hb2); (try clear hk); (try clear hi); have p535 : 0 ≤ (t534 : Int) := of_decide_eq_true (by first | (with_reducible assumption) | assumption); have q535 : t534 < (x10_4.length : Int) := of_decide_eq_true (by first | (with_reducible assumption) | assumption); obtain ⟨ad535, e535, hx535_0⟩ := Kd.at_int (Kd.R_reads' HO_10.out).2.2 t534 p535 q535; obtain rfl : (⟨go35, 0, none⟩ : Addr) = ad535 := (by injection e535); (first | simp only [add_plain] at hx535_0 | simp only [add_at] at hx535_0 | simp only [Addr.add, Nat.zero_add] at hx535_0 | skip); replace p535 := eq_true p535; replace q535 := eq_true q535) | (go_at_call 45; (with_reducible refine (tollbarref4_room.calls _ _ l1 _ _ l2 x13_4 t536 _ ?side1 ?side2 ?side3 ?side4 A46.out).mono ?_); (case side1 => repeat (first | exact (Kd.C_below HR1.out HB.out) | (with_reducible refine Kd.C_alloc ?_ _) | (with_reducible refine Kd.C_drewN ?_ _) | (with_reducible refine Kd.C_drew ?_))); (case side2 => exact HC1.out); (case side3 => repeat (first | exact (Kd.C_below HR2.out HB.out) | (with_reducible refine Kd.C_alloc ?_ _) | (with_reducible refine Kd.C_drewN ?_ _) | (with_reducible refine Kd.C_drew ?_))); (case side4 => exact HC2.out); rintro e w' ⟨rfl, ⟨nd, rfl⟩⟩; have hcz66_0 : w65.cell? ⟨gb525, 0, none⟩ = some (.int .i64 a0_0) := (blk_cell BK525.out 0).trans rfl; have hcz66_1 : w65.cell? ⟨gb525, 1, none⟩ = some (.slice A0_1 l0_1.length c0_1) := (blk_cell BK525.out 1).trans rfl; have hfz66_0 := blk_frozen BK525.out 0; have hfz66_1 := blk_frozen BK525.out 1) | (go_at_call 30; (with_reducible refine (tollbarref4_Head.calls a0_0 _ _ l0_1 x13_4 t537 _ ?side1 ?side2 A48.out).mono ?_); (case side1 => repeat (first | exact (Kd.C_below HR0_1.out (by repeat (first | (with_reducible first | exact HB.out | apply below_alloc | apply pw_below_drewN | apply below_drew1 | refine below_set ?_ GE525.out) | exact HB.out))) | (with_reducible refine Kd.C_alloc ?_ _) | (with_reducible refine Kd.C_drewN ?_ _) | (with_reducible refine Kd.C_drew ?_))); (case side2 => exact HC0_1.out); rintro e w67 ⟨rfl, hb⟩; have n0_ := Aside0.mk (Kd.R_below (by (with_reducible repeat (first | apply Kd.R_alloc | apply Kd.R_drewN | apply Kd.R_drew)); exact HO_10.out) hb); have n1_ := Aside0.mk (blk_below (g := gb525) (o := .cells #[.int .i64 a0_0, .slice A0_1 l0_1.length c0_1] 24 (0, 0)) (by (with_reducible repeat (first | refine blk_drewN ?_ _ | refine blk_drew ?_ | refine blk_alloc ?_ _)); exact BK525.out) hb); have n2_ := Aside0.mk (below_step (by repeat (first | (with_reducible first | exact HB.out | apply below_alloc | apply pw_below_drewN | apply below_drew1 | refine below_set ?_ GE525.out) | exact HB.out)) hb); clear HO_10; clear BK525; clear HB; have HO_10 := n0_; have BK525 := n1_; have HB := n2_; clear n0_ n1_ n2_; (try clear hb); (try clear hb2); (try clear hk); (try clear hi); have p538 : 0 ≤ (t537 : Int) := of_decide_eq_true (by first | (with_reducible assumption) | assumption); have q538 : t537 < (x10_4.length : Int) := of_decide_eq_true (by first | (with_reducible assumption) | assumption); obtain ⟨ad538, e538, hx538_0⟩ := Kd.at_int (Kd.R_reads' HO_10.out).2.2 t537 p538 q538; obtain rfl : (⟨go35, 0, none⟩ : Addr) = ad538 := (by injection e538); (first | simp only [add_plain] at hx538_0 | simp only [add_at] at hx538_0 | simp only [Addr.add, Nat.zero_add] at hx538_0 | skip); replace p538 := eq_true p538; replace q538 := eq_true q538))
                        (try simp only [← hl10_4])
                        go_roundg k4
                        case measure => have := HJ4.out; have := HK2.out; have := HK3.out; have := HK4.out; omega
                        case rel => exact ⟨(x10_4), (wrap64 (x13_4 + 1)), (by first | rfl | (simp; done) | (simp [*]; done)), H', ⟨by have := HJ4.out; have := HK2.out; have := HK3.out; have := HK4.out; omega⟩, ⟨by (try simp only [hl10_3]); (try simp only [hl10_4]); (with_reducible repeat (first | apply Kd.R_alloc | apply Kd.R_drewN | apply Kd.R_drew)); exact HO_10.out⟩, ⟨by (try simp only [hl10_3]); (try simp only [hl10_4]); (with_reducible repeat (first | refine blk_drewN ?_ _ | refine blk_drew ?_ | refine blk_alloc ?_ _)); exact BK525.out⟩, ⟨by repeat (first | (with_reducible first | exact HB.out | apply below_alloc | apply pw_below_drewN | apply below_drew1 | refine below_set ?_ GE525.out) | exact HB.out)⟩⟩
                      ·
                       rw [if_neg c50] at H
                       exact absurd H (by simp)
                     ·
                      rw [if_neg c49] at H
                      exact absurd H (by simp)
                    ·
                     rw [if_neg c47] at H
                     have c47b0 : decide (0 < t536) = false := decide_eq_false c47
                     clear c47
                     have H' := Aside0.mk H
                     clear H
                     have hcz68_0 : wr.cell? ⟨gb525, 0, none⟩ = some (.int .i64 a0_0) := (blk_cell BK525.out 0).trans rfl
                     have hcz68_1 : wr.cell? ⟨gb525, 1, none⟩ = some (.slice A0_1 l0_1.length c0_1) := (blk_cell BK525.out 1).trans rfl
                     have hfz68_0 := blk_frozen BK525.out 0
                     have hfz68_1 := blk_frozen BK525.out 1
                     go_wp2_with (first | ((with_reducible refine gate_callee (f := 29) rfl ?_); refine goesL_ (some 62) rfl rfl Try.func29 (by kernel_rfl) rfl #[.agg #[.int .i64 a0_0, .slice A0_1 l0_1.length c0_1], .int .i64 x13_4] rfl (by (try simp only [List.map_toArray, List.map_cons, List.map_nil]); first | done | rfl | (simp only [List.length_drop, List.length_take]; rfl)) ?_; (with_reducible refine (tollbarref4_Tail.calls a0_0 _ _ l0_1 x13_4 t534 _ ?side1 ?side2 A42.out).mono ?_); (case side1 => repeat (first | exact (Kd.C_below HR0_1.out HB.out) | (with_reducible refine Kd.C_alloc ?_ _) | (with_reducible refine Kd.C_drewN ?_ _) | (with_reducible refine Kd.C_drew ?_))); (case side2 => exact HC0_1.out); rintro e w69 ⟨rfl, hb⟩; refine ⟨_, rfl, ?_⟩; have n0_ := Aside0.mk (Kd.R_below (by (with_reducible repeat (first | apply Kd.R_alloc | apply Kd.R_drewN | apply Kd.R_drew)); exact HO_10.out) hb); have n1_ := Aside0.mk (blk_below (g := gb525) (o := .cells #[.int .i64 a0_0, .slice A0_1 l0_1.length c0_1] 24 (0, 0)) (by (with_reducible repeat (first | refine blk_drewN ?_ _ | refine blk_drew ?_ | refine blk_alloc ?_ _)); exact BK525.out) hb); have n2_ := Aside0.mk (below_step (by repeat (first | (with_reducible first | exact HB.out | apply below_alloc | apply pw_below_drewN | apply below_drew1 | refine below_set ?_ GE525.out) | exact HB.out)) hb); clear HO_10; clear BK525; clear HB; have HO_10 := n0_; have BK525 := n1_; have HB := n2_; clear n0_ n1_ n2_; (try clear hb); (try clear hb2); (try clear hk); (try clear hi); have p535 : 0 ≤ (t534 : Int) := of_decide_eq_true (by first | (with_reducible assumption) | assumption); have q535 : t534 < (x10_4.length : Int) := of_decide_eq_true (by first | (with_reducible assumption) | assumption); obtain ⟨ad535, e535, hx535_0⟩ := Kd.at_int (Kd.R_reads' HO_10.out).2.2 t534 p535 q535; obtain rfl : (⟨go35, 0, none⟩ : Addr) = ad535 := (by injection e535); (first | simp only [add_plain] at hx535_0 | simp only [add_at] at hx535_0 | simp only [Addr.add, Nat.zero_add] at hx535_0 | skip); replace p535 := eq_true p535; replace q535 := eq_true q535) | (go_at_call 45; (with_reducible refine (tollbarref4_room.calls _ _ l1 _ _ l2 x13_4 t536 _ ?side1 ?side2 ?side3 ?side4 A46.out).mono ?_); (case side1 => repeat (first | exact (Kd.C_below HR1.out HB.out) | (with_reducible refine Kd.C_alloc ?_ _) | (with_reducible refine Kd.C_drewN ?_ _) | (with_reducible refine Kd.C_drew ?_))); (case side2 => exact HC1.out); (case side3 => repeat (first | exact (Kd.C_below HR2.out HB.out) | (with_reducible refine Kd.C_alloc ?_ _) | (with_reducible refine Kd.C_drewN ?_ _) | (with_reducible refine Kd.C_drew ?_))); (case side4 => exact HC2.out); rintro e w' ⟨rfl, ⟨nd, rfl⟩⟩))
                     (try simp only [← hl10_4])
                     go_roundg k4
                     case measure => have := HJ4.out; have := HK2.out; have := HK3.out; have := HK4.out; omega
                     case rel => exact ⟨(x10_4), (wrap64 (x13_4 + 1)), (by first | rfl | (simp; done) | (simp [*]; done)), H', ⟨by have := HJ4.out; have := HK2.out; have := HK3.out; have := HK4.out; omega⟩, ⟨by (try simp only [hl10_3]); (try simp only [hl10_4]); (with_reducible repeat (first | apply Kd.R_alloc | apply Kd.R_drewN | apply Kd.R_drew)); exact HO_10.out⟩, ⟨by (try simp only [hl10_3]); (try simp only [hl10_4]); (with_reducible repeat (first | refine blk_drewN ?_ _ | refine blk_drew ?_ | refine blk_alloc ?_ _)); exact BK525.out⟩, ⟨by repeat (first | (with_reducible first | exact HB.out | apply below_alloc | apply pw_below_drewN | apply below_drew1 | refine below_set ?_ GE525.out) | exact HB.out)⟩⟩
                   ·
                    rw [if_neg c45] at H
                    have c45b0 : ((rd x10_4 t534) == x12_3) = false := beq_eq_false_iff_ne.mpr c45
                    have c45b1 : ((rd x10_4 t534) != x12_3) = true := bne_iff_ne.mpr c45
                    have H' := Aside0.mk H
                    clear H
                    have hcz70_0 : wr.cell? ⟨gb525, 0, none⟩ = some (.int .i64 a0_0) := (blk_cell BK525.out 0).trans rfl
                    have hcz70_1 : wr.cell? ⟨gb525, 1, none⟩ = some (.slice A0_1 l0_1.length c0_1) := (blk_cell BK525.out 1).trans rfl
                    have hfz70_0 := blk_frozen BK525.out 0
                    have hfz70_1 := blk_frozen BK525.out 1
                    go_wp2_with (first | ((with_reducible refine gate_callee (f := 29) rfl ?_); refine goesL_ (some 62) rfl rfl Try.func29 (by kernel_rfl) rfl #[.agg #[.int .i64 a0_0, .slice A0_1 l0_1.length c0_1], .int .i64 x13_4] rfl (by (try simp only [List.map_toArray, List.map_cons, List.map_nil]); first | done | rfl | (simp only [List.length_drop, List.length_take]; rfl)) ?_; (with_reducible refine (tollbarref4_Tail.calls a0_0 _ _ l0_1 x13_4 t534 _ ?side1 ?side2 A42.out).mono ?_); (case side1 => repeat (first | exact (Kd.C_below HR0_1.out HB.out) | (with_reducible refine Kd.C_alloc ?_ _) | (with_reducible refine Kd.C_drewN ?_ _) | (with_reducible refine Kd.C_drew ?_))); (case side2 => exact HC0_1.out); rintro e w71 ⟨rfl, hb⟩; refine ⟨_, rfl, ?_⟩; have n0_ := Aside0.mk (Kd.R_below (by (with_reducible repeat (first | apply Kd.R_alloc | apply Kd.R_drewN | apply Kd.R_drew)); exact HO_10.out) hb); have n1_ := Aside0.mk (blk_below (g := gb525) (o := .cells #[.int .i64 a0_0, .slice A0_1 l0_1.length c0_1] 24 (0, 0)) (by (with_reducible repeat (first | refine blk_drewN ?_ _ | refine blk_drew ?_ | refine blk_alloc ?_ _)); exact BK525.out) hb); have n2_ := Aside0.mk (below_step (by repeat (first | (with_reducible first | exact HB.out | apply below_alloc | apply pw_below_drewN | apply below_drew1 | refine below_set ?_ GE525.out) | exact HB.out)) hb); clear HO_10; clear BK525; clear HB; have HO_10 := n0_; have BK525 := n1_; have HB := n2_; clear n0_ n1_ n2_; (try clear hb); (try clear hb2); (try clear hk); (try clear hi); have p535 : 0 ≤ (t534 : Int) := of_decide_eq_true (by first | (with_reducible assumption) | assumption); have q535 : t534 < (x10_4.length : Int) := of_decide_eq_true (by first | (with_reducible assumption) | assumption); obtain ⟨ad535, e535, hx535_0⟩ := Kd.at_int (Kd.R_reads' HO_10.out).2.2 t534 p535 q535; obtain rfl : (⟨go35, 0, none⟩ : Addr) = ad535 := (by injection e535); (first | simp only [add_plain] at hx535_0 | simp only [add_at] at hx535_0 | simp only [Addr.add, Nat.zero_add] at hx535_0 | skip); replace p535 := eq_true p535; replace q535 := eq_true q535))
                    (try simp only [← hl10_4])
                    go_roundg k4
                    case measure => have := HJ4.out; have := HK2.out; have := HK3.out; have := HK4.out; omega
                    case rel => exact ⟨(x10_4), (wrap64 (x13_4 + 1)), (by first | rfl | (simp; done) | (simp [*]; done)), H', ⟨by have := HJ4.out; have := HK2.out; have := HK3.out; have := HK4.out; omega⟩, ⟨by (try simp only [hl10_3]); (try simp only [hl10_4]); (with_reducible repeat (first | apply Kd.R_alloc | apply Kd.R_drewN | apply Kd.R_drew)); exact HO_10.out⟩, ⟨by (try simp only [hl10_3]); (try simp only [hl10_4]); (with_reducible repeat (first | refine blk_drewN ?_ _ | refine blk_drew ?_ | refine blk_alloc ?_ _)); exact BK525.out⟩, ⟨by repeat (first | (with_reducible first | exact HB.out | apply below_alloc | apply pw_below_drewN | apply below_drew1 | refine below_set ?_ GE525.out) | exact HB.out)⟩⟩
                  ·
                   rw [if_neg c44] at H
                   exact absurd H (by simp)
                 ·
                  rw [if_neg c43] at H
                  exact absurd H (by simp)
                ·
                 rw [if_neg c41] at H
                 have c41b0 : decide (x13_4 < (wrap64 (2 * (l0_1.length : Int)))) = false := decide_eq_false c41
                 clear c41
                 have H' := Aside0.mk H
                 clear H
                 have hcz72_0 : wr.cell? ⟨gb525, 0, none⟩ = some (.int .i64 a0_0) := (blk_cell BK525.out 0).trans rfl
                 have hcz72_1 : wr.cell? ⟨gb525, 1, none⟩ = some (.slice A0_1 l0_1.length c0_1) := (blk_cell BK525.out 1).trans rfl
                 have hfz72_0 := blk_frozen BK525.out 0
                 have hfz72_1 := blk_frozen BK525.out 1
                 go_wp2
                 (try simp only [← hl10_3, ← hl10_4])
                 go_roundg k4
                 case measure => have := HJ4.out; have := HK2.out; have := HK3.out; have := HK4.out; omega
                 case rel => exact ⟨(x10_4), (wrap64 (x12_3 + 1)), (by first | rfl | (simp; done) | (simp [*]; done)), H', ⟨by have := HJ4.out; have := HK2.out; have := HK3.out; have := HK4.out; omega⟩, ⟨by (try simp only [hl10_3]); (try simp only [hl10_4]); (with_reducible repeat (first | apply Kd.R_alloc | apply Kd.R_drewN | apply Kd.R_drew)); exact HO_10.out⟩, ⟨by (try simp only [hl10_3]); (try simp only [hl10_4]); (with_reducible repeat (first | refine blk_drewN ?_ _ | refine blk_drew ?_ | refine blk_alloc ?_ _)); exact BK525.out⟩, ⟨by repeat (first | (with_reducible first | exact HB.out | apply below_alloc | apply pw_below_drewN | apply below_drew1 | refine below_set ?_ GE525.out) | exact HB.out)⟩⟩
             ·
              rw [if_neg c39] at H
              have c39b0 : decide (x12_3 < a0_0) = false := decide_eq_false c39
              clear c39
              simp only [Option.some.injEq, Prod.mk.injEq] at H
              obtain ⟨rfl, rfl⟩ := H
              have hcz73_0 : wr.cell? ⟨gb525, 0, none⟩ = some (.int .i64 a0_0) := (blk_cell BK525.out 0).trans rfl
              have hcz73_1 : wr.cell? ⟨gb525, 1, none⟩ = some (.slice A0_1 l0_1.length c0_1) := (blk_cell BK525.out 1).trans rfl
              have hfz73_0 := blk_frozen BK525.out 0
              have hfz73_1 := blk_frozen BK525.out 1
              go_wp2
              go_ret2
              exact ⟨_, by first | rfl | (simp [errW_none, errW_some] <;> rfl) | (simp [*, errW_none, errW_some] <;> rfl), by (with_reducible repeat (first | apply Kd.R_alloc | apply Kd.R_drewN | apply Kd.R_drew)); exact HO_10.out, by repeat (first | (with_reducible first | exact HB.out | apply below_alloc | apply pw_below_drewN | apply below_drew1 | refine below_set ?_ GE525.out) | exact HB.out)⟩
          ·
           rw [if_neg c34] at H
           exact absurd H (by simp)
         ·
          rw [if_neg c33] at H
          exact absurd H (by simp)
     ·
      rw [if_neg c22] at H
      exact absurd H (by simp)
    ·
     rw [if_neg c21] at H
     exact absurd H (by simp)
end Go.Proofs.Ytcfbfghdkgakmaa.PAll
end

section
/- tollbarlaw10_small: what it tells, and that its Go text comes to that. Written by a program for this claim. -/
namespace Go.Proofs.Ytcfbfghdkgakmaa.PAll
open Go.RowKit Go.Proofs.YtcfbfghdkgakmaaW.PrintWords Go.Proofs.YtcfbfghdkgakmaaW.PrintLast Go.Proofs.YtcfbfghdkgakmaaW.PrintMore
attribute [local go_sem] max2_int min2_int max_two min_two max_three min_three max_four min_four   -- for this text's walks alone
set_option linter.unusedVariables false
set_option linter.unusedSimpArgs false
/-! ### tollbarlaw10_small: function 34 -/
def tollbarlaw10_small.f  : Option (Int × (List (S53))) := some (3, (([(⟨0, 1, 5⟩ : S53), (⟨1, 2, 4⟩ : S53), (⟨0, 2, 3⟩ : S53)] : List (S53))))
set_option maxHeartbeats 8000000 in
set_option maxRecDepth 100000 in
theorem tollbarlaw10_small.calls  (r1 : Int) (r2 : List (S53)) (w : World) (h : tollbarlaw10_small.f  = some (r1, r2)) :
    Calls Try.prog 34 #[] w fun e w' => ∃ v1_ : Value, e = .returned (.agg #[.int .i64 r1, v1_]) ∧ Kd.R k53 53 w' w.heap.size (fun _ => True) v1_ r2 ∧ Below w.heap.size w w' := by
  have hu24 := Try.underlying24
  have hu53 := Try.underlying53
  have HB := Aside0.mk (Below.refl w.heap.size w)
  have H : (some (3, (([(⟨0, 1, 5⟩ : S53), (⟨1, 2, 4⟩ : S53), (⟨0, 2, 3⟩ : S53)] : List (S53))))) = some (r1, r2) := h
  clear h
  obtain ⟨y542, hy542⟩ : ∃ y_ : List (S53), y_ = (([(⟨0, 1, 5⟩ : S53), (⟨1, 2, 4⟩ : S53), (⟨0, 2, 3⟩ : S53)] : List (S53))) := ⟨_, rfl⟩
  replace H : (some (3, y542)) = some (r1, r2) := by first | (rw [hy542]; with_reducible exact H) | (have H2_ := (Option.bind_some _ _).symm.trans H; rw [hy542]; with_reducible exact H2_) | (have H2_ := (Option.bind_some _ _).symm.trans H; with_reducible exact H2_) | with_reducible exact H | (rw [hy542]; exact H) | exact H
  have Ny542 := Aside0.mk hy542
  clear hy542
  simp only [Option.some.injEq, Prod.mk.injEq] at H
  obtain ⟨rfl, rfl⟩ := H
  go_enter Try.func34, Try.ntmps34
  go_wp2_with (first | ((with_reducible refine gate_dst (N := 0) rfl ?_); refine box_event ?hg (N := 0) ?hd (cs := #[.int .i64 0, .slice none 0 0]) (t := 24) ?hr ?_; (case hd => rfl); (case hg => rfl); (case hr => first | (go_simp; done) | (go_simp; rfl)); intro gb541 hg w1 hbox hb; have n0_ := Aside0.mk (below_step (by repeat (first | (with_reducible first | exact HB.out | apply below_alloc | apply pw_below_drewN | apply below_drew1) | exact HB.out)) hb); have n1_ := Aside0.mk (hbox); have n2_ := Aside0.mk ((by rw [hg]; exact (below_size (by repeat (first | (with_reducible first | exact HB.out | apply below_alloc | apply pw_below_drewN | apply below_drew1) | exact HB.out))) : w.heap.size ≤ gb541)); have n3_ := Aside0.mk ((by rw [hg]; exact (below_size (by repeat (first | (with_reducible first | exact HB.out | apply below_alloc | apply pw_below_drewN | apply below_drew1) | exact HB.out))) : w.heap.size ≤ gb541)); clear HB; have HB := n0_; have BK541 := n1_; have GW541 := n2_; have GE541 := n3_; clear n0_ n1_ n2_ n3_; clear hb hbox hg) | ((with_reducible refine gate_dst (N := 4) rfl ?_); refine Kd.R_lit k53 _ 53 ?hg (N := 4) ?hd (xs := ([(⟨0, 1, 5⟩ : S53), (⟨1, 2, 4⟩ : S53), (⟨0, 2, 3⟩ : S53)] : List (S53))) (inner := [.int .i64 0, .int .i64 1, .int .i64 5, .int .i64 1, .int .i64 2, .int .i64 4, .int .i64 0, .int .i64 2, .int .i64 3]) (ok := fun _ => True) (okp := fun _ => True) ?hr ?hp (fun _ hk => hk) trivial (Below.refl _ _) (Nat.le_refl _) (by simp) ?_; (case hd => rfl); (case hg => rfl); (case hr => first | (go_simp; done) | (go_simp; rfl)); (case hp => exact (Reps.c3 (show Kd.M k53 _ _ _ (⟨0, 1, 5⟩ : S53) [.int .i64 0, .int .i64 1, .int .i64 5] from (k53_mkM _ _ _ (⟨0, 1, 5⟩ : S53) )) (Reps.c3 (show Kd.M k53 _ _ _ (⟨1, 2, 4⟩ : S53) [.int .i64 1, .int .i64 2, .int .i64 4] from (k53_mkM _ _ _ (⟨1, 2, 4⟩ : S53) )) (Reps.c3 (show Kd.M k53 _ _ _ (⟨0, 2, 3⟩ : S53) [.int .i64 0, .int .i64 2, .int .i64 3] from (k53_mkM _ _ _ (⟨0, 2, 3⟩ : S53) )) (Reps.none _ _))))); intro v543 w2 ho3 hb hg_ hnew_; clear hg_ hnew_; (first | rw [← Ny542.out] at ho3 | (simp only [Int.reduceToNat] at ho3; rw [← Ny542.out] at ho3)); have n0_ := Aside0.mk (Kd.R_lower ho3 (below_size (by repeat (first | (with_reducible first | exact HB.out | apply below_alloc | apply pw_below_drewN | apply below_drew1 | refine below_set ?_ GE541.out) | exact HB.out)))); have n1_ := Aside0.mk (blk_below (g := gb541) (o := .cells #[.int .i64 0, .slice none 0 0] 24 (0, 0)) (by (with_reducible repeat (first | refine blk_drewN ?_ _ | refine blk_drew ?_ | refine blk_alloc ?_ _)); exact BK541.out) hb); have n2_ := Aside0.mk (below_step (by repeat (first | (with_reducible first | exact HB.out | apply below_alloc | apply pw_below_drewN | apply below_drew1 | refine below_set ?_ GE541.out) | exact HB.out)) hb); clear BK541; clear HB; have HO544 := n0_; have BK541 := n1_; have HB := n2_; clear n0_ n1_ n2_; clear hb ho3; obtain ⟨Ao4, co4, eo4⟩ := Kd.R_slice HO544.out; subst eo4; have hcz5_0 : w2.cell? ⟨gb541, 0, none⟩ = some (.int .i64 0) := (blk_cell BK541.out 0).trans rfl; have hcz5_1 : w2.cell? ⟨gb541, 1, none⟩ = some (.slice none 0 0) := (blk_cell BK541.out 1).trans rfl; have hfz5_0 := blk_frozen BK541.out 0; have hfz5_1 := blk_frozen BK541.out 1))
  refine bodyPost_ret (results_cell_row rfl _ _ gb541 24 #[.int .i64 3, .slice Ao4 y542.length co4] (0, 0) _ rfl (by (with_reducible repeat (first | refine blk_drewN ?_ _ | refine blk_drew ?_ | refine blk_alloc ?_ _)); refine blk_put (cs := #[.int .i64 3, .slice none 0 0]) ?_ 1 _ rfl; (with_reducible repeat (first | refine blk_drewN ?_ _ | refine blk_drew ?_ | refine blk_alloc ?_ _)); refine blk_put (cs := #[.int .i64 0, .slice none 0 0]) ?_ 0 _ rfl; (with_reducible repeat (first | refine blk_drewN ?_ _ | refine blk_drew ?_ | refine blk_alloc ?_ _)); exact BK541.out) Try.underlying24 rfl (by kernel_rfl)) rfl ?_
  exact ⟨_, by first | rfl | (simp [errW_none, errW_some] <;> rfl) | (simp [*, errW_none, errW_some] <;> rfl), by (with_reducible repeat (first | apply Kd.R_alloc | apply Kd.R_drewN | apply Kd.R_drew)); exact Kd.R_mono (Kd.R_far (p := ⟨gb541, 1, none⟩) (Kd.R_far (p := ⟨gb541, 0, none⟩) (Kd.R_types HO544.out BK541.out (by decide)) (fun _ hk => hk.2) (.int .i64 3)) (fun _ hk => hk.2) (.slice Ao4 y542.length co4)) (fun _ hk => trivial), by repeat (first | (with_reducible first | exact HB.out | apply below_alloc | apply pw_below_drewN | apply below_drew1 | refine below_set ?_ GE541.out) | exact HB.out)⟩
end Go.Proofs.Ytcfbfghdkgakmaa.PAll
end

section
/- tollbarlaw10_awake: what it tells, and that its Go text comes to that. Written by a program for this claim. Thin. -/
namespace Go.Proofs.Ytcfbfghdkgakmaa.PAll
open Go.RowKit Go.Proofs.YtcfbfghdkgakmaaW.PrintWords Go.Proofs.YtcfbfghdkgakmaaW.PrintLast Go.Proofs.YtcfbfghdkgakmaaW.PrintMore
attribute [local go_sem] max2_int min2_int max_two min_two max_three min_three max_four min_four   -- for this text's walks alone
set_option linter.unusedVariables false
set_option linter.unusedSimpArgs false
/-! ### tollbarlaw10_awake: function 28 -/
def tollbarlaw10_awake.f (k : Nat)  : Option (Bool) := (tollbarlaw10_small.f).bind fun bt545 => ((level_Levels.f k bt545.1 bt545.2 (([5, 4, 3] : List Int)) (([0, 0, 3] : List Int)) 0).bind fun bt555 => ((tollbarlaw10_small.f).bind fun bt559 => ((level_Levels.f k bt559.1 bt559.2 (([5, 4, 3] : List Int)) (([0, 0, 4] : List Int)) 0).bind fun bt569 => ((tollbarlaw0_SameInts.f k bt555.1 (([0, 1, 2] : List Int))).bind fun t576 => (if t576 = true then ((tollbarlaw0_Num.f bt555.2).bind fun t577 => (if t577 = 0 then ((tollbarlaw0_Num.f bt569.2).bind fun t578 => (some (t578 == 1000))) else (none))) else (none))))))
set_option maxHeartbeats 8000000 in
set_option maxRecDepth 100000 in
theorem tollbarlaw10_awake.calls (k : Nat)  (r : Bool) (w : World) (h : tollbarlaw10_awake.f k  = some r) :
  Calls Try.prog 28 #[] w fun e w' => e = .returned (.bool r) ∧ Below w.heap.size w w' := by
 have HB := Aside0.mk (Below.refl w.heap.size w)
 have H : ((tollbarlaw10_small.f).bind fun bt545 => ((level_Levels.f k bt545.1 bt545.2 (([5, 4, 3] : List Int)) (([0, 0, 3] : List Int)) 0).bind fun bt555 => ((tollbarlaw10_small.f).bind fun bt559 => ((level_Levels.f k bt559.1 bt559.2 (([5, 4, 3] : List Int)) (([0, 0, 4] : List Int)) 0).bind fun bt569 => ((tollbarlaw0_SameInts.f k bt555.1 (([0, 1, 2] : List Int))).bind fun t576 => (if t576 = true then ((tollbarlaw0_Num.f bt555.2).bind fun t577 => (if t577 = 0 then ((tollbarlaw0_Num.f bt569.2).bind fun t578 => (some (t578 == 1000))) else (none))) else (none))))))) = some r := h
 clear h
 replace H := Option.bind_eq_some_iff.mp H
 obtain ⟨⟨t545, t546⟩, A10, H⟩ := H
 replace H : ((level_Levels.f k t545 t546 (([5, 4, 3] : List Int)) (([0, 0, 3] : List Int)) 0).bind fun bt555 => ((tollbarlaw10_small.f).bind fun bt559 => ((level_Levels.f k bt559.1 bt559.2 (([5, 4, 3] : List Int)) (([0, 0, 4] : List Int)) 0).bind fun bt569 => ((tollbarlaw0_SameInts.f k bt555.1 (([0, 1, 2] : List Int))).bind fun t576 => (if t576 = true then ((tollbarlaw0_Num.f bt555.2).bind fun t577 => (if t577 = 0 then ((tollbarlaw0_Num.f bt569.2).bind fun t578 => (some (t578 == 1000))) else (none))) else (none)))))) = some r := H
 have A1 := Aside0.mk A10
 clear A10
 obtain ⟨y549, hy549⟩ : ∃ y_ : List Int, y_ = (([5, 4, 3] : List Int)) := ⟨_, rfl⟩
 replace H : ((level_Levels.f k t545 t546 y549 (([0, 0, 3] : List Int)) 0).bind fun bt555 => ((tollbarlaw10_small.f).bind fun bt559 => ((level_Levels.f k bt559.1 bt559.2 (([5, 4, 3] : List Int)) (([0, 0, 4] : List Int)) 0).bind fun bt569 => ((tollbarlaw0_SameInts.f k bt555.1 (([0, 1, 2] : List Int))).bind fun t576 => (if t576 = true then ((tollbarlaw0_Num.f bt555.2).bind fun t577 => (if t577 = 0 then ((tollbarlaw0_Num.f bt569.2).bind fun t578 => (some (t578 == 1000))) else (none))) else (none)))))) = some r := by first | (rw [hy549]; with_reducible exact H) | (have H2_ := (Option.bind_some _ _).symm.trans H; rw [hy549]; with_reducible exact H2_) | (have H2_ := (Option.bind_some _ _).symm.trans H; with_reducible exact H2_) | with_reducible exact H | (rw [hy549]; exact H) | exact H
 have Ny549 := Aside0.mk hy549
 clear hy549
 obtain ⟨y552, hy552⟩ : ∃ y_ : List Int, y_ = (([0, 0, 3] : List Int)) := ⟨_, rfl⟩
 replace H : ((level_Levels.f k t545 t546 y549 y552 0).bind fun bt555 => ((tollbarlaw10_small.f).bind fun bt559 => ((level_Levels.f k bt559.1 bt559.2 (([5, 4, 3] : List Int)) (([0, 0, 4] : List Int)) 0).bind fun bt569 => ((tollbarlaw0_SameInts.f k bt555.1 (([0, 1, 2] : List Int))).bind fun t576 => (if t576 = true then ((tollbarlaw0_Num.f bt555.2).bind fun t577 => (if t577 = 0 then ((tollbarlaw0_Num.f bt569.2).bind fun t578 => (some (t578 == 1000))) else (none))) else (none)))))) = some r := by first | (rw [hy552]; with_reducible exact H) | (have H2_ := (Option.bind_some _ _).symm.trans H; rw [hy552]; with_reducible exact H2_) | (have H2_ := (Option.bind_some _ _).symm.trans H; with_reducible exact H2_) | with_reducible exact H | (rw [hy552]; exact H) | exact H
 have Ny552 := Aside0.mk hy552
 clear hy552
 replace H := Option.bind_eq_some_iff.mp H
 obtain ⟨⟨t555, t558⟩, A20, H⟩ := H
 replace H : ((tollbarlaw10_small.f).bind fun bt559 => ((level_Levels.f k bt559.1 bt559.2 (([5, 4, 3] : List Int)) (([0, 0, 4] : List Int)) 0).bind fun bt569 => ((tollbarlaw0_SameInts.f k t555 (([0, 1, 2] : List Int))).bind fun t576 => (if t576 = true then ((tollbarlaw0_Num.f t558).bind fun t577 => (if t577 = 0 then ((tollbarlaw0_Num.f bt569.2).bind fun t578 => (some (t578 == 1000))) else (none))) else (none))))) = some r := H
 have A2 := Aside0.mk A20
 clear A20
 replace H := Option.bind_eq_some_iff.mp H
 obtain ⟨⟨t559, t560⟩, A30, H⟩ := H
 replace H : ((level_Levels.f k t559 t560 (([5, 4, 3] : List Int)) (([0, 0, 4] : List Int)) 0).bind fun bt569 => ((tollbarlaw0_SameInts.f k t555 (([0, 1, 2] : List Int))).bind fun t576 => (if t576 = true then ((tollbarlaw0_Num.f t558).bind fun t577 => (if t577 = 0 then ((tollbarlaw0_Num.f bt569.2).bind fun t578 => (some (t578 == 1000))) else (none))) else (none)))) = some r := H
 have A3 := Aside0.mk A30
 clear A30
 obtain ⟨y563, hy563⟩ : ∃ y_ : List Int, y_ = (([5, 4, 3] : List Int)) := ⟨_, rfl⟩
 replace H : ((level_Levels.f k t559 t560 y563 (([0, 0, 4] : List Int)) 0).bind fun bt569 => ((tollbarlaw0_SameInts.f k t555 (([0, 1, 2] : List Int))).bind fun t576 => (if t576 = true then ((tollbarlaw0_Num.f t558).bind fun t577 => (if t577 = 0 then ((tollbarlaw0_Num.f bt569.2).bind fun t578 => (some (t578 == 1000))) else (none))) else (none)))) = some r := by first | (rw [hy563]; with_reducible exact H) | (have H2_ := (Option.bind_some _ _).symm.trans H; rw [hy563]; with_reducible exact H2_) | (have H2_ := (Option.bind_some _ _).symm.trans H; with_reducible exact H2_) | with_reducible exact H | (rw [hy563]; exact H) | exact H
 have Ny563 := Aside0.mk hy563
 clear hy563
 obtain ⟨y566, hy566⟩ : ∃ y_ : List Int, y_ = (([0, 0, 4] : List Int)) := ⟨_, rfl⟩
 replace H : ((level_Levels.f k t559 t560 y563 y566 0).bind fun bt569 => ((tollbarlaw0_SameInts.f k t555 (([0, 1, 2] : List Int))).bind fun t576 => (if t576 = true then ((tollbarlaw0_Num.f t558).bind fun t577 => (if t577 = 0 then ((tollbarlaw0_Num.f bt569.2).bind fun t578 => (some (t578 == 1000))) else (none))) else (none)))) = some r := by first | (rw [hy566]; with_reducible exact H) | (have H2_ := (Option.bind_some _ _).symm.trans H; rw [hy566]; with_reducible exact H2_) | (have H2_ := (Option.bind_some _ _).symm.trans H; with_reducible exact H2_) | with_reducible exact H | (rw [hy566]; exact H) | exact H
 have Ny566 := Aside0.mk hy566
 clear hy566
 replace H := Option.bind_eq_some_iff.mp H
 obtain ⟨⟨t569, t572⟩, A40, H⟩ := H
 replace H : ((tollbarlaw0_SameInts.f k t555 (([0, 1, 2] : List Int))).bind fun t576 => (if t576 = true then ((tollbarlaw0_Num.f t558).bind fun t577 => (if t577 = 0 then ((tollbarlaw0_Num.f t572).bind fun t578 => (some (t578 == 1000))) else (none))) else (none))) = some r := H
 have A4 := Aside0.mk A40
 clear A40
 obtain ⟨y573, hy573⟩ : ∃ y_ : List Int, y_ = (([0, 1, 2] : List Int)) := ⟨_, rfl⟩
 replace H : ((tollbarlaw0_SameInts.f k t555 y573).bind fun t576 => (if t576 = true then ((tollbarlaw0_Num.f t558).bind fun t577 => (if t577 = 0 then ((tollbarlaw0_Num.f t572).bind fun t578 => (some (t578 == 1000))) else (none))) else (none))) = some r := by first | (rw [hy573]; with_reducible exact H) | (have H2_ := (Option.bind_some _ _).symm.trans H; rw [hy573]; with_reducible exact H2_) | (have H2_ := (Option.bind_some _ _).symm.trans H; with_reducible exact H2_) | with_reducible exact H | (rw [hy573]; exact H) | exact H
 have Ny573 := Aside0.mk hy573
 clear hy573
 replace H := Option.bind_eq_some_iff.mp H
 obtain ⟨t576, A50, H⟩ := H
 replace H : (if t576 = true then ((tollbarlaw0_Num.f t558).bind fun t577 => (if t577 = 0 then ((tollbarlaw0_Num.f t572).bind fun t578 => (some (t578 == 1000))) else (none))) else (none)) = some r := H
 have A5 := Aside0.mk A50
 clear A50
 by_cases c6 : t576 = true
 ·
  subst c6
  have H1 : ((tollbarlaw0_Num.f t558).bind fun t577 => (if t577 = 0 then ((tollbarlaw0_Num.f t572).bind fun t578 => (some (t578 == 1000))) else (none))) = some r := by rw [if_pos rfl] at H; exact H
  clear H
  have H := H1
  clear H1
  replace H := Option.bind_eq_some_iff.mp H
  obtain ⟨t577, A70, H⟩ := H
  replace H : (if t577 = 0 then ((tollbarlaw0_Num.f t572).bind fun t578 => (some (t578 == 1000))) else (none)) = some r := H
  have A7 := Aside0.mk A70
  clear A70
  by_cases c8 : t577 = 0
  ·
   rw [if_pos c8] at H
   have c8b0 : (t577 == 0) = true := beq_iff_eq.mpr c8
   have c8b1 : (t577 != 0) = false := bne_eq_false_iff_eq.mpr c8
   clear c8
   replace H := Option.bind_eq_some_iff.mp H
   obtain ⟨t578, A90, H⟩ := H
   replace H : (some (t578 == 1000)) = some r := H
   have A9 := Aside0.mk A90
   clear A90
   obtain rfl := Option.some.inj H
   go_enter Try.func28, Try.ntmps28
   go_wp2_with (first | ((with_reducible refine gate_callee (f := 34) rfl ?_); refine goesL_ (some 6) rfl rfl Try.func34 (by kernel_rfl) rfl #[] rfl (by (try simp only [List.map_toArray, List.map_cons, List.map_nil]); first | done | rfl | (simp only [List.length_drop, List.length_take]; rfl)) ?_; (with_reducible refine (tollbarlaw10_small.calls  t545 t546 _ A1.out).mono ?_); rintro e w10 ⟨v547, rfl, ho0, hb⟩; refine ⟨_, rfl, ?_⟩; have n0_ := Aside0.mk (Kd.R_lower ho0 (below_size (by repeat (first | (with_reducible first | exact HB.out | apply below_alloc | apply pw_below_drewN | apply below_drew1) | exact HB.out)))); have n1_ := Aside0.mk (below_step (by repeat (first | (with_reducible first | exact HB.out | apply below_alloc | apply pw_below_drewN | apply below_drew1) | exact HB.out)) hb); clear HB; have HO548 := n0_; have HB := n1_; clear n0_ n1_; (try clear hb); (try clear hb2); (try clear hk); (try clear hi); (try clear ho0)) | ((with_reducible refine gate_dst (N := 7) rfl ?_); refine Kd.R_lit (Kd.int .i64) _ 3 ?hg (N := 7) ?hd (xs := ([5, 4, 3] : List Int)) (inner := [.int .i64 5, .int .i64 4, .int .i64 3]) (ok := fun _ => True) (okp := fun _ => True) ?hr ?hp (fun _ hk => hk) trivial (Below.refl _ _) (Nat.le_refl _) (by simp) ?_; (case hd => rfl); (case hg => rfl); (case hr => first | (go_simp; done) | (go_simp; rfl)); (case hp => exact (Reps.one (show Kd.M (Kd.int .i64) _ _ _ 5 [.int .i64 5] from rfl) (Reps.one (show Kd.M (Kd.int .i64) _ _ _ 4 [.int .i64 4] from rfl) (Reps.one (show Kd.M (Kd.int .i64) _ _ _ 3 [.int .i64 3] from rfl) (Reps.none _ _))))); intro v550 w11 ho12 hb hg_ hnew_; clear hg_ hnew_; (first | rw [← Ny549.out] at ho12 | (simp only [Int.reduceToNat] at ho12; rw [← Ny549.out] at ho12)); have n0_ := Aside0.mk (Kd.R_below (by (with_reducible repeat (first | apply Kd.R_alloc | apply Kd.R_drewN | apply Kd.R_drew)); exact HO548.out) hb); have n1_ := Aside0.mk (Kd.R_lower ho12 (below_size (by repeat (first | (with_reducible first | exact HB.out | apply below_alloc | apply pw_below_drewN | apply below_drew1) | exact HB.out)))); have n2_ := Aside0.mk (below_step (by repeat (first | (with_reducible first | exact HB.out | apply below_alloc | apply pw_below_drewN | apply below_drew1) | exact HB.out)) hb); clear HO548; clear HB; have HO548 := n0_; have HO551 := n1_; have HB := n2_; clear n0_ n1_ n2_; clear hb ho12) | ((with_reducible refine gate_dst (N := 8) rfl ?_); refine Kd.R_lit (Kd.int .i64) _ 3 ?hg (N := 8) ?hd (xs := ([0, 0, 3] : List Int)) (inner := [.int .i64 0, .int .i64 0, .int .i64 3]) (ok := fun _ => True) (okp := fun _ => True) ?hr ?hp (fun _ hk => hk) trivial (Below.refl _ _) (Nat.le_refl _) (by simp) ?_; (case hd => rfl); (case hg => rfl); (case hr => first | (go_simp; done) | (go_simp; rfl)); (case hp => exact (Reps.one (show Kd.M (Kd.int .i64) _ _ _ 0 [.int .i64 0] from rfl) (Reps.one (show Kd.M (Kd.int .i64) _ _ _ 0 [.int .i64 0] from rfl) (Reps.one (show Kd.M (Kd.int .i64) _ _ _ 3 [.int .i64 3] from rfl) (Reps.none _ _))))); intro v553 w13 ho14 hb hg_ hnew_; clear hg_ hnew_; (first | rw [← Ny552.out] at ho14 | (simp only [Int.reduceToNat] at ho14; rw [← Ny552.out] at ho14)); have n0_ := Aside0.mk (Kd.R_below (by (with_reducible repeat (first | apply Kd.R_alloc | apply Kd.R_drewN | apply Kd.R_drew)); exact HO548.out) hb); have n1_ := Aside0.mk (Kd.R_elder' (by (with_reducible repeat (first | apply Kd.R_alloc | apply Kd.R_drewN | apply Kd.R_drew)); exact HO551.out) (Kd.R_base ho14) hb); have n2_ := Aside0.mk (Kd.R_lower (Kd.R_new' ho14 (Kd.R_lt (by (with_reducible repeat (first | apply Kd.R_alloc | apply Kd.R_drewN | apply Kd.R_drew)); exact HO551.out))) (below_size (by repeat (first | (with_reducible first | exact HB.out | apply below_alloc | apply pw_below_drewN | apply below_drew1) | exact HB.out)))); have n3_ := Aside0.mk (below_step (by repeat (first | (with_reducible first | exact HB.out | apply below_alloc | apply pw_below_drewN | apply below_drew1) | exact HB.out)) hb); clear HO548; clear HO551; clear HB; have HO548 := n0_; have HO551 := n1_; have HO554 := n2_; have HB := n3_; clear n0_ n1_ n2_ n3_; clear hb ho14; obtain ⟨Ao15, co15, eo15⟩ := Kd.R_slice HO548.out; subst eo15; obtain ⟨Ao16, co16, eo16⟩ := Kd.R_slice HO551.out; subst eo16; obtain ⟨Ao17, co17, eo17⟩ := Kd.R_slice HO554.out; subst eo17) | ((with_reducible refine gate_callee (f := 26) rfl ?_); refine goesL_ (some 9) rfl rfl Try.func26 (by kernel_rfl) rfl #[.agg #[.int .i64 t545, .slice Ao15 t546.length co15], .slice Ao16 y549.length co16, .slice Ao17 y552.length co17, .int .i64 0] rfl (by (try simp only [List.map_toArray, List.map_cons, List.map_nil]); first | done | rfl | (simp only [List.length_drop, List.length_take]; rfl)) ?_; (with_reducible refine (level_Levels.calls k t545 _ _ t546 _ _ y549 _ _ y552 0 t555 t558 _ ?side1 ?side2 ?side3 ?side4 ?side5 ?side6 A2.out).mono ?_); (case side1 => repeat (first | exact (Kd.R_reads' HO548.out).2.2 | (with_reducible refine Kd.C_alloc ?_ _) | (with_reducible refine Kd.C_drewN ?_ _) | (with_reducible refine Kd.C_drew ?_))); (case side2 => exact (Kd.R_reads' HO548.out).2.1); (case side3 => repeat (first | exact (Kd.R_reads' HO551.out).2.2 | (with_reducible refine Kd.C_alloc ?_ _) | (with_reducible refine Kd.C_drewN ?_ _) | (with_reducible refine Kd.C_drew ?_))); (case side4 => exact (Kd.R_reads' HO551.out).2.1); (case side5 => repeat (first | exact (Kd.R_reads' HO554.out).2.2 | (with_reducible refine Kd.C_alloc ?_ _) | (with_reducible refine Kd.C_drewN ?_ _) | (with_reducible refine Kd.C_drew ?_))); (case side6 => exact (Kd.R_reads' HO554.out).2.1); rintro e w18 ⟨v556, rfl, ho0, hb⟩; refine ⟨_, rfl, ?_⟩; have n0_ := Aside0.mk (Kd.R_below (by (with_reducible repeat (first | apply Kd.R_alloc | apply Kd.R_drewN | apply Kd.R_drew)); exact HO548.out) hb); have n1_ := Aside0.mk (Kd.R_elder' (by (with_reducible repeat (first | apply Kd.R_alloc | apply Kd.R_drewN | apply Kd.R_drew)); exact HO551.out) (Kd.R_base ho0) hb); have n2_ := Aside0.mk (Kd.R_elder' (by (with_reducible repeat (first | apply Kd.R_alloc | apply Kd.R_drewN | apply Kd.R_drew)); exact HO554.out) (Kd.R_base ho0) hb); have n3_ := Aside0.mk (Kd.R_lower (Kd.R_new' (Kd.R_new' ho0 (Kd.R_lt (by (with_reducible repeat (first | apply Kd.R_alloc | apply Kd.R_drewN | apply Kd.R_drew)); exact HO551.out))) (Kd.R_lt (by (with_reducible repeat (first | apply Kd.R_alloc | apply Kd.R_drewN | apply Kd.R_drew)); exact HO554.out))) (below_size (by repeat (first | (with_reducible first | exact HB.out | apply below_alloc | apply pw_below_drewN | apply below_drew1) | exact HB.out)))); have n4_ := Aside0.mk (below_step (by repeat (first | (with_reducible first | exact HB.out | apply below_alloc | apply pw_below_drewN | apply below_drew1) | exact HB.out)) hb); clear HO548; clear HO551; clear HO554; clear HB; have HO548 := n0_; have HO551 := n1_; have HO554 := n2_; have HO557 := n3_; have HB := n4_; clear n0_ n1_ n2_ n3_ n4_; (try clear hb); (try clear hb2); (try clear hk); (try clear hi); (try clear ho0)) | ((with_reducible refine gate_callee (f := 34) rfl ?_); refine goesL_ (some 13) rfl rfl Try.func34 (by kernel_rfl) rfl #[] rfl (by (try simp only [List.map_toArray, List.map_cons, List.map_nil]); first | done | rfl | (simp only [List.length_drop, List.length_take]; rfl)) ?_; (with_reducible refine (tollbarlaw10_small.calls  t559 t560 _ A3.out).mono ?_); rintro e w19 ⟨v561, rfl, ho0, hb⟩; refine ⟨_, rfl, ?_⟩; have n0_ := Aside0.mk (Kd.R_elder' (by (with_reducible repeat (first | apply Kd.R_alloc | apply Kd.R_drewN | apply Kd.R_drew)); exact HO548.out) (Kd.R_base ho0) hb); have n1_ := Aside0.mk (Kd.R_below (by (with_reducible repeat (first | apply Kd.R_alloc | apply Kd.R_drewN | apply Kd.R_drew)); exact HO551.out) hb); have n2_ := Aside0.mk (Kd.R_below (by (with_reducible repeat (first | apply Kd.R_alloc | apply Kd.R_drewN | apply Kd.R_drew)); exact HO554.out) hb); have n3_ := Aside0.mk (Kd.R_below (by (with_reducible repeat (first | apply Kd.R_alloc | apply Kd.R_drewN | apply Kd.R_drew)); exact HO557.out) hb); have n4_ := Aside0.mk (Kd.R_lower (Kd.R_new' ho0 (Kd.R_lt (by (with_reducible repeat (first | apply Kd.R_alloc | apply Kd.R_drewN | apply Kd.R_drew)); exact HO548.out))) (below_size (by repeat (first | (with_reducible first | exact HB.out | apply below_alloc | apply pw_below_drewN | apply below_drew1) | exact HB.out)))); have n5_ := Aside0.mk (below_step (by repeat (first | (with_reducible first | exact HB.out | apply below_alloc | apply pw_below_drewN | apply below_drew1) | exact HB.out)) hb); clear HO548; clear HO551; clear HO554; clear HO557; clear HB; have HO548 := n0_; have HO551 := n1_; have HO554 := n2_; have HO557 := n3_; have HO562 := n4_; have HB := n5_; clear n0_ n1_ n2_ n3_ n4_ n5_; (try clear hb); (try clear hb2); (try clear hk); (try clear hi); (try clear ho0)) | ((with_reducible refine gate_dst (N := 14) rfl ?_); refine Kd.R_lit (Kd.int .i64) _ 3 ?hg (N := 14) ?hd (xs := ([5, 4, 3] : List Int)) (inner := [.int .i64 5, .int .i64 4, .int .i64 3]) (ok := fun _ => True) (okp := fun _ => True) ?hr ?hp (fun _ hk => hk) trivial (Below.refl _ _) (Nat.le_refl _) (by simp) ?_; (case hd => rfl); (case hg => rfl); (case hr => first | (go_simp; done) | (go_simp; rfl)); (case hp => exact (Reps.one (show Kd.M (Kd.int .i64) _ _ _ 5 [.int .i64 5] from rfl) (Reps.one (show Kd.M (Kd.int .i64) _ _ _ 4 [.int .i64 4] from rfl) (Reps.one (show Kd.M (Kd.int .i64) _ _ _ 3 [.int .i64 3] from rfl) (Reps.none _ _))))); intro v564 w20 ho21 hb hg_ hnew_; clear hg_ hnew_; (first | rw [← Ny563.out] at ho21 | (simp only [Int.reduceToNat] at ho21; rw [← Ny563.out] at ho21)); have n0_ := Aside0.mk (Kd.R_below (by (with_reducible repeat (first | apply Kd.R_alloc | apply Kd.R_drewN | apply Kd.R_drew)); exact HO548.out) hb); have n1_ := Aside0.mk (Kd.R_elder' (by (with_reducible repeat (first | apply Kd.R_alloc | apply Kd.R_drewN | apply Kd.R_drew)); exact HO551.out) (Kd.R_base ho21) hb); have n2_ := Aside0.mk (Kd.R_elder' (by (with_reducible repeat (first | apply Kd.R_alloc | apply Kd.R_drewN | apply Kd.R_drew)); exact HO554.out) (Kd.R_base ho21) hb); have n3_ := Aside0.mk (Kd.R_elder' (by (with_reducible repeat (first | apply Kd.R_alloc | apply Kd.R_drewN | apply Kd.R_drew)); exact HO557.out) (Kd.R_base ho21) hb); have n4_ := Aside0.mk (Kd.R_below (by (with_reducible repeat (first | apply Kd.R_alloc | apply Kd.R_drewN | apply Kd.R_drew)); exact HO562.out) hb); have n5_ := Aside0.mk (Kd.R_lower (Kd.R_new' (Kd.R_new' (Kd.R_new' ho21 (Kd.R_lt (by (with_reducible repeat (first | apply Kd.R_alloc | apply Kd.R_drewN | apply Kd.R_drew)); exact HO551.out))) (Kd.R_lt (by (with_reducible repeat (first | apply Kd.R_alloc | apply Kd.R_drewN | apply Kd.R_drew)); exact HO554.out))) (Kd.R_lt (by (with_reducible repeat (first | apply Kd.R_alloc | apply Kd.R_drewN | apply Kd.R_drew)); exact HO557.out))) (below_size (by repeat (first | (with_reducible first | exact HB.out | apply below_alloc | apply pw_below_drewN | apply below_drew1) | exact HB.out)))); have n6_ := Aside0.mk (below_step (by repeat (first | (with_reducible first | exact HB.out | apply below_alloc | apply pw_below_drewN | apply below_drew1) | exact HB.out)) hb); clear HO548; clear HO551; clear HO554; clear HO557; clear HO562; clear HB; have HO548 := n0_; have HO551 := n1_; have HO554 := n2_; have HO557 := n3_; have HO562 := n4_; have HO565 := n5_; have HB := n6_; clear n0_ n1_ n2_ n3_ n4_ n5_ n6_; clear hb ho21) | ((with_reducible refine gate_dst (N := 15) rfl ?_); refine Kd.R_lit (Kd.int .i64) _ 3 ?hg (N := 15) ?hd (xs := ([0, 0, 4] : List Int)) (inner := [.int .i64 0, .int .i64 0, .int .i64 4]) (ok := fun _ => True) (okp := fun _ => True) ?hr ?hp (fun _ hk => hk) trivial (Below.refl _ _) (Nat.le_refl _) (by simp) ?_; (case hd => rfl); (case hg => rfl); (case hr => first | (go_simp; done) | (go_simp; rfl)); (case hp => exact (Reps.one (show Kd.M (Kd.int .i64) _ _ _ 0 [.int .i64 0] from rfl) (Reps.one (show Kd.M (Kd.int .i64) _ _ _ 0 [.int .i64 0] from rfl) (Reps.one (show Kd.M (Kd.int .i64) _ _ _ 4 [.int .i64 4] from rfl) (Reps.none _ _))))); intro v567 w22 ho23 hb hg_ hnew_; clear hg_ hnew_; (first | rw [← Ny566.out] at ho23 | (simp only [Int.reduceToNat] at ho23; rw [← Ny566.out] at ho23)); have n0_ := Aside0.mk (Kd.R_below (by (with_reducible repeat (first | apply Kd.R_alloc | apply Kd.R_drewN | apply Kd.R_drew)); exact HO548.out) hb); have n1_ := Aside0.mk (Kd.R_elder' (by (with_reducible repeat (first | apply Kd.R_alloc | apply Kd.R_drewN | apply Kd.R_drew)); exact HO551.out) (Kd.R_base ho23) hb); have n2_ := Aside0.mk (Kd.R_elder' (by (with_reducible repeat (first | apply Kd.R_alloc | apply Kd.R_drewN | apply Kd.R_drew)); exact HO554.out) (Kd.R_base ho23) hb); have n3_ := Aside0.mk (Kd.R_elder' (by (with_reducible repeat (first | apply Kd.R_alloc | apply Kd.R_drewN | apply Kd.R_drew)); exact HO557.out) (Kd.R_base ho23) hb); have n4_ := Aside0.mk (Kd.R_below (by (with_reducible repeat (first | apply Kd.R_alloc | apply Kd.R_drewN | apply Kd.R_drew)); exact HO562.out) hb); have n5_ := Aside0.mk (Kd.R_elder' (by (with_reducible repeat (first | apply Kd.R_alloc | apply Kd.R_drewN | apply Kd.R_drew)); exact HO565.out) (Kd.R_base ho23) hb); have n6_ := Aside0.mk (Kd.R_lower (Kd.R_new' (Kd.R_new' (Kd.R_new' (Kd.R_new' ho23 (Kd.R_lt (by (with_reducible repeat (first | apply Kd.R_alloc | apply Kd.R_drewN | apply Kd.R_drew)); exact HO551.out))) (Kd.R_lt (by (with_reducible repeat (first | apply Kd.R_alloc | apply Kd.R_drewN | apply Kd.R_drew)); exact HO554.out))) (Kd.R_lt (by (with_reducible repeat (first | apply Kd.R_alloc | apply Kd.R_drewN | apply Kd.R_drew)); exact HO557.out))) (Kd.R_lt (by (with_reducible repeat (first | apply Kd.R_alloc | apply Kd.R_drewN | apply Kd.R_drew)); exact HO565.out))) (below_size (by repeat (first | (with_reducible first | exact HB.out | apply below_alloc | apply pw_below_drewN | apply below_drew1) | exact HB.out)))); have n7_ := Aside0.mk (below_step (by repeat (first | (with_reducible first | exact HB.out | apply below_alloc | apply pw_below_drewN | apply below_drew1) | exact HB.out)) hb); clear HO548; clear HO551; clear HO554; clear HO557; clear HO562; clear HO565; clear HB; have HO548 := n0_; have HO551 := n1_; have HO554 := n2_; have HO557 := n3_; have HO562 := n4_; have HO565 := n5_; have HO568 := n6_; have HB := n7_; clear n0_ n1_ n2_ n3_ n4_ n5_ n6_ n7_; clear hb ho23; obtain ⟨Ao24, co24, eo24⟩ := Kd.R_slice HO562.out; subst eo24; obtain ⟨Ao25, co25, eo25⟩ := Kd.R_slice HO565.out; subst eo25; obtain ⟨Ao26, co26, eo26⟩ := Kd.R_slice HO568.out; subst eo26) | ((with_reducible refine gate_callee (f := 26) rfl ?_); refine goesL_ (some 16) rfl rfl Try.func26 (by kernel_rfl) rfl #[.agg #[.int .i64 t559, .slice Ao24 t560.length co24], .slice Ao25 y563.length co25, .slice Ao26 y566.length co26, .int .i64 0] rfl (by (try simp only [List.map_toArray, List.map_cons, List.map_nil]); first | done | rfl | (simp only [List.length_drop, List.length_take]; rfl)) ?_; (with_reducible refine (level_Levels.calls k t559 _ _ t560 _ _ y563 _ _ y566 0 t569 t572 _ ?side1 ?side2 ?side3 ?side4 ?side5 ?side6 A4.out).mono ?_); (case side1 => repeat (first | exact (Kd.R_reads' HO562.out).2.2 | (with_reducible refine Kd.C_alloc ?_ _) | (with_reducible refine Kd.C_drewN ?_ _) | (with_reducible refine Kd.C_drew ?_))); (case side2 => exact (Kd.R_reads' HO562.out).2.1); (case side3 => repeat (first | exact (Kd.R_reads' HO565.out).2.2 | (with_reducible refine Kd.C_alloc ?_ _) | (with_reducible refine Kd.C_drewN ?_ _) | (with_reducible refine Kd.C_drew ?_))); (case side4 => exact (Kd.R_reads' HO565.out).2.1); (case side5 => repeat (first | exact (Kd.R_reads' HO568.out).2.2 | (with_reducible refine Kd.C_alloc ?_ _) | (with_reducible refine Kd.C_drewN ?_ _) | (with_reducible refine Kd.C_drew ?_))); (case side6 => exact (Kd.R_reads' HO568.out).2.1); rintro e w27 ⟨v570, rfl, ho0, hb⟩; refine ⟨_, rfl, ?_⟩; have n0_ := Aside0.mk (Kd.R_below (by (with_reducible repeat (first | apply Kd.R_alloc | apply Kd.R_drewN | apply Kd.R_drew)); exact HO548.out) hb); have n1_ := Aside0.mk (Kd.R_elder' (by (with_reducible repeat (first | apply Kd.R_alloc | apply Kd.R_drewN | apply Kd.R_drew)); exact HO551.out) (Kd.R_base ho0) hb); have n2_ := Aside0.mk (Kd.R_elder' (by (with_reducible repeat (first | apply Kd.R_alloc | apply Kd.R_drewN | apply Kd.R_drew)); exact HO554.out) (Kd.R_base ho0) hb); have n3_ := Aside0.mk (Kd.R_elder' (by (with_reducible repeat (first | apply Kd.R_alloc | apply Kd.R_drewN | apply Kd.R_drew)); exact HO557.out) (Kd.R_base ho0) hb); have n4_ := Aside0.mk (Kd.R_below (by (with_reducible repeat (first | apply Kd.R_alloc | apply Kd.R_drewN | apply Kd.R_drew)); exact HO562.out) hb); have n5_ := Aside0.mk (Kd.R_elder' (by (with_reducible repeat (first | apply Kd.R_alloc | apply Kd.R_drewN | apply Kd.R_drew)); exact HO565.out) (Kd.R_base ho0) hb); have n6_ := Aside0.mk (Kd.R_elder' (by (with_reducible repeat (first | apply Kd.R_alloc | apply Kd.R_drewN | apply Kd.R_drew)); exact HO568.out) (Kd.R_base ho0) hb); have n7_ := Aside0.mk (Kd.R_lower (Kd.R_new' (Kd.R_new' (Kd.R_new' (Kd.R_new' (Kd.R_new' ho0 (Kd.R_lt (by (with_reducible repeat (first | apply Kd.R_alloc | apply Kd.R_drewN | apply Kd.R_drew)); exact HO551.out))) (Kd.R_lt (by (with_reducible repeat (first | apply Kd.R_alloc | apply Kd.R_drewN | apply Kd.R_drew)); exact HO554.out))) (Kd.R_lt (by (with_reducible repeat (first | apply Kd.R_alloc | apply Kd.R_drewN | apply Kd.R_drew)); exact HO557.out))) (Kd.R_lt (by (with_reducible repeat (first | apply Kd.R_alloc | apply Kd.R_drewN | apply Kd.R_drew)); exact HO565.out))) (Kd.R_lt (by (with_reducible repeat (first | apply Kd.R_alloc | apply Kd.R_drewN | apply Kd.R_drew)); exact HO568.out))) (below_size (by repeat (first | (with_reducible first | exact HB.out | apply below_alloc | apply pw_below_drewN | apply below_drew1) | exact HB.out)))); have n8_ := Aside0.mk (below_step (by repeat (first | (with_reducible first | exact HB.out | apply below_alloc | apply pw_below_drewN | apply below_drew1) | exact HB.out)) hb); clear HO548; clear HO551; clear HO554; clear HO557; clear HO562; clear HO565; clear HO568; clear HB; have HO548 := n0_; have HO551 := n1_; have HO554 := n2_; have HO557 := n3_; have HO562 := n4_; have HO565 := n5_; have HO568 := n6_; have HO571 := n7_; have HB := n8_; clear n0_ n1_ n2_ n3_ n4_ n5_ n6_ n7_ n8_; (try clear hb); (try clear hb2); (try clear hk); (try clear hi); (try clear ho0)) | ((with_reducible refine gate_dst (N := 20) rfl ?_); refine Kd.R_lit (Kd.int .i64) _ 3 ?hg (N := 20) ?hd (xs := ([0, 1, 2] : List Int)) (inner := [.int .i64 0, .int .i64 1, .int .i64 2]) (ok := fun _ => True) (okp := fun _ => True) ?hr ?hp (fun _ hk => hk) trivial (Below.refl _ _) (Nat.le_refl _) (by simp) ?_; (case hd => rfl); (case hg => rfl); (case hr => first | (go_simp; done) | (go_simp; rfl)); (case hp => exact (Reps.one (show Kd.M (Kd.int .i64) _ _ _ 0 [.int .i64 0] from rfl) (Reps.one (show Kd.M (Kd.int .i64) _ _ _ 1 [.int .i64 1] from rfl) (Reps.one (show Kd.M (Kd.int .i64) _ _ _ 2 [.int .i64 2] from rfl) (Reps.none _ _))))); intro v574 w28 ho29 hb hg_ hnew_; clear hg_ hnew_; (first | rw [← Ny573.out] at ho29 | (simp only [Int.reduceToNat] at ho29; rw [← Ny573.out] at ho29)); have n0_ := Aside0.mk (Kd.R_below (by (with_reducible repeat (first | apply Kd.R_alloc | apply Kd.R_drewN | apply Kd.R_drew)); exact HO548.out) hb); have n1_ := Aside0.mk (Kd.R_elder' (by (with_reducible repeat (first | apply Kd.R_alloc | apply Kd.R_drewN | apply Kd.R_drew)); exact HO551.out) (Kd.R_base ho29) hb); have n2_ := Aside0.mk (Kd.R_elder' (by (with_reducible repeat (first | apply Kd.R_alloc | apply Kd.R_drewN | apply Kd.R_drew)); exact HO554.out) (Kd.R_base ho29) hb); have n3_ := Aside0.mk (Kd.R_elder' (by (with_reducible repeat (first | apply Kd.R_alloc | apply Kd.R_drewN | apply Kd.R_drew)); exact HO557.out) (Kd.R_base ho29) hb); have n4_ := Aside0.mk (Kd.R_below (by (with_reducible repeat (first | apply Kd.R_alloc | apply Kd.R_drewN | apply Kd.R_drew)); exact HO562.out) hb); have n5_ := Aside0.mk (Kd.R_elder' (by (with_reducible repeat (first | apply Kd.R_alloc | apply Kd.R_drewN | apply Kd.R_drew)); exact HO565.out) (Kd.R_base ho29) hb); have n6_ := Aside0.mk (Kd.R_elder' (by (with_reducible repeat (first | apply Kd.R_alloc | apply Kd.R_drewN | apply Kd.R_drew)); exact HO568.out) (Kd.R_base ho29) hb); have n7_ := Aside0.mk (Kd.R_elder' (by (with_reducible repeat (first | apply Kd.R_alloc | apply Kd.R_drewN | apply Kd.R_drew)); exact HO571.out) (Kd.R_base ho29) hb); have n8_ := Aside0.mk (Kd.R_lower (Kd.R_new' (Kd.R_new' (Kd.R_new' (Kd.R_new' (Kd.R_new' (Kd.R_new' ho29 (Kd.R_lt (by (with_reducible repeat (first | apply Kd.R_alloc | apply Kd.R_drewN | apply Kd.R_drew)); exact HO551.out))) (Kd.R_lt (by (with_reducible repeat (first | apply Kd.R_alloc | apply Kd.R_drewN | apply Kd.R_drew)); exact HO554.out))) (Kd.R_lt (by (with_reducible repeat (first | apply Kd.R_alloc | apply Kd.R_drewN | apply Kd.R_drew)); exact HO557.out))) (Kd.R_lt (by (with_reducible repeat (first | apply Kd.R_alloc | apply Kd.R_drewN | apply Kd.R_drew)); exact HO565.out))) (Kd.R_lt (by (with_reducible repeat (first | apply Kd.R_alloc | apply Kd.R_drewN | apply Kd.R_drew)); exact HO568.out))) (Kd.R_lt (by (with_reducible repeat (first | apply Kd.R_alloc | apply Kd.R_drewN | apply Kd.R_drew)); exact HO571.out))) (below_size (by repeat (first | (with_reducible first | exact HB.out | apply below_alloc | apply pw_below_drewN | apply below_drew1) | exact HB.out)))); have n9_ := Aside0.mk (below_step (by repeat (first | (with_reducible first | exact HB.out | apply below_alloc | apply pw_below_drewN | apply below_drew1) | exact HB.out)) hb); clear HO548; clear HO551; clear HO554; clear HO557; clear HO562; clear HO565; clear HO568; clear HO571; clear HB; have HO548 := n0_; have HO551 := n1_; have HO554 := n2_; have HO557 := n3_; have HO562 := n4_; have HO565 := n5_; have HO568 := n6_; have HO571 := n7_; have HO575 := n8_; have HB := n9_; clear n0_ n1_ n2_ n3_ n4_ n5_ n6_ n7_ n8_ n9_; clear hb ho29; obtain ⟨Ao30, co30, eo30⟩ := Kd.R_slice HO557.out; subst eo30; obtain ⟨Ao31, co31, eo31⟩ := Kd.R_slice HO575.out; subst eo31) | ((with_reducible refine gate_callee (f := 24) rfl ?_); refine goesL_ (some 21) rfl rfl Try.func24 (by kernel_rfl) rfl #[.slice Ao30 t555.length co30, .slice Ao31 y573.length co31] rfl (by (try simp only [List.map_toArray, List.map_cons, List.map_nil]); first | done | rfl | (simp only [List.length_drop, List.length_take]; rfl)) ?_; (with_reducible refine (tollbarlaw0_SameInts.calls k _ _ t555 _ _ y573 true _ ?side1 ?side2 ?side3 ?side4 A5.out).mono ?_); (case side1 => repeat (first | exact (Kd.R_reads' HO557.out).2.2 | (with_reducible refine Kd.C_alloc ?_ _) | (with_reducible refine Kd.C_drewN ?_ _) | (with_reducible refine Kd.C_drew ?_))); (case side2 => exact (Kd.R_reads' HO557.out).2.1); (case side3 => repeat (first | exact (Kd.R_reads' HO575.out).2.2 | (with_reducible refine Kd.C_alloc ?_ _) | (with_reducible refine Kd.C_drewN ?_ _) | (with_reducible refine Kd.C_drew ?_))); (case side4 => exact (Kd.R_reads' HO575.out).2.1); rintro e w' ⟨rfl, ⟨nd, rfl⟩⟩; refine ⟨_, rfl, ?_⟩) | (go_at_call 20; (with_reducible refine (tollbarlaw0_Num.calls t558 t577 _ A7.out).mono ?_); rintro e w' ⟨rfl, ⟨nd, rfl⟩⟩) | (go_at_call 20; (with_reducible refine (tollbarlaw0_Num.calls t572 t578 _ A9.out).mono ?_); rintro e w' ⟨rfl, ⟨nd, rfl⟩⟩))
   go_ret
   exact ⟨by first | rfl | (simp [errW_none, errW_some] <;> rfl) | (simp [*, errW_none, errW_some] <;> rfl), by repeat (first | (with_reducible first | exact HB.out | apply below_alloc | apply pw_below_drewN | apply below_drew1) | exact HB.out)⟩
  ·
   rw [if_neg c8] at H
   exact absurd H (by simp)
 ·
  replace c6 := Bool.eq_false_iff.mpr c6
  subst c6
  have H1 : (none) = some r := by rw [if_neg (show ¬ (false = true) by decide)] at H; exact H
  clear H
  have H := H1
  clear H1
  exact absurd H (by simp)
end Go.Proofs.Ytcfbfghdkgakmaa.PAll
end

section
/- tollbarlaw10_Levels: what it tells, and that its Go text comes to that. Written by a program for this claim. Thin. -/
namespace Go.Proofs.Ytcfbfghdkgakmaa.PAll
open Go.RowKit Go.Proofs.YtcfbfghdkgakmaaW.PrintWords Go.Proofs.YtcfbfghdkgakmaaW.PrintLast Go.Proofs.YtcfbfghdkgakmaaW.PrintMore
attribute [local go_sem] max2_int min2_int max_two min_two max_three min_three max_four min_four   -- for this text's walks alone
set_option linter.unusedVariables false
set_option linter.unusedSimpArgs false
/-! ### tollbarlaw10_Levels: function 7 -/
def tollbarlaw10_Levels.j0 : Nat → List Int → List Int → List Int → List Int → List Int → Bool → Option (Bool)
 | 0, _, _, _, _, _, _ => none
 | k + 1, x1, x2, x9, x10, x11, x44 => if x44 = true then (none) else ((tollbarlaw0_SpoilInts.f k x11).bind fun t596 => ((tollbarlaw10_awake.f k).bind fun t597 => (if t597 = true then ((tollbarlaw0_KeptInts.f k x9 x1).bind fun t598 => (if t598 = true then ((tollbarlaw0_KeptInts.f k x10 x2).bind fun t599 => (some t599)) else (none))) else (none))))
def tollbarlaw10_Levels.f (k : Nat) (a0_0 : Int) (l0_1 : List (S53)) (l1 : List Int) (l2 : List Int) (a3 : Int) : Option (Bool) := (tollbarlaw0_LendInts.f l1).bind fun t580 => ((tollbarlaw0_LendInts.f l2).bind fun t583 => ((level_Levels.f k a0_0 l0_1 t580 t583 a3).bind fun bt586 => ((tollbarref4_Levels.f k a0_0 l0_1 l1 l2 a3).bind fun bt590 => ((tollbarlaw0_SameInts.f k bt586.1 bt590.1).bind fun t594 => (if t594 = true then ((tollbarlaw0_Num.f bt586.2).bind fun t595 => (tollbarlaw10_Levels.j0 k l1 l2 t580 t583 bt586.1 (t595 != bt590.2))) else (tollbarlaw10_Levels.j0 k l1 l2 t580 t583 bt586.1 true))))))
set_option maxHeartbeats 8000000 in
set_option maxRecDepth 100000 in
theorem tollbarlaw10_Levels.calls (k : Nat) (a0_0 : Int) (A0_1 : Option Addr) (c0_1 : Nat) (l0_1 : List (S53)) (A1 : Option Addr) (c1 : Nat) (l1 : List Int) (A2 : Option Addr) (c2 : Nat) (l2 : List Int) (a3 : Int) (r : Bool) (w : World) (hr0_1 : Kd.C k53 w A0_1 l0_1.length l0_1) (hc0_1 : l0_1.length ≤ c0_1) (hr1 : Kd.C (Kd.int .i64) w A1 l1.length l1) (hc1 : l1.length ≤ c1) (hr2 : Kd.C (Kd.int .i64) w A2 l2.length l2) (hc2 : l2.length ≤ c2) (h : tollbarlaw10_Levels.f k a0_0 l0_1 l1 l2 a3 = some r) :
  Calls Try.prog 7 #[.agg #[.int .i64 a0_0, .slice A0_1 l0_1.length c0_1], .slice A1 l1.length c1, .slice A2 l2.length c2, .int .i64 a3] w fun e w' => e = .returned (.bool r) ∧ Below w.heap.size w w' := by
 have hu24 := Try.underlying24
 have HR0_1 := Aside0.mk hr0_1
 have HC0_1 := Aside0.mk hc0_1
 clear hr0_1 hc0_1
 have HR1 := Aside0.mk hr1
 have HC1 := Aside0.mk hc1
 clear hr1 hc1
 have HR2 := Aside0.mk hr2
 have HC2 := Aside0.mk hc2
 clear hr2 hc2
 have HB := Aside0.mk (Below.refl w.heap.size w)
 have H : ((tollbarlaw0_LendInts.f l1).bind fun t580 => ((tollbarlaw0_LendInts.f l2).bind fun t583 => ((level_Levels.f k a0_0 l0_1 t580 t583 a3).bind fun bt586 => ((tollbarref4_Levels.f k a0_0 l0_1 l1 l2 a3).bind fun bt590 => ((tollbarlaw0_SameInts.f k bt586.1 bt590.1).bind fun t594 => (if t594 = true then ((tollbarlaw0_Num.f bt586.2).bind fun t595 => (tollbarlaw10_Levels.j0 k l1 l2 t580 t583 bt586.1 (t595 != bt590.2))) else (tollbarlaw10_Levels.j0 k l1 l2 t580 t583 bt586.1 true))))))) = some r := h
 clear h
 replace H := Option.bind_eq_some_iff.mp H
 obtain ⟨t580, A50, H⟩ := H
 replace H : ((tollbarlaw0_LendInts.f l2).bind fun t583 => ((level_Levels.f k a0_0 l0_1 t580 t583 a3).bind fun bt586 => ((tollbarref4_Levels.f k a0_0 l0_1 l1 l2 a3).bind fun bt590 => ((tollbarlaw0_SameInts.f k bt586.1 bt590.1).bind fun t594 => (if t594 = true then ((tollbarlaw0_Num.f bt586.2).bind fun t595 => (tollbarlaw10_Levels.j0 k l1 l2 t580 t583 bt586.1 (t595 != bt590.2))) else (tollbarlaw10_Levels.j0 k l1 l2 t580 t583 bt586.1 true)))))) = some r := H
 have A5 := Aside0.mk A50
 clear A50
 replace H := Option.bind_eq_some_iff.mp H
 obtain ⟨t583, A60, H⟩ := H
 replace H : ((level_Levels.f k a0_0 l0_1 t580 t583 a3).bind fun bt586 => ((tollbarref4_Levels.f k a0_0 l0_1 l1 l2 a3).bind fun bt590 => ((tollbarlaw0_SameInts.f k bt586.1 bt590.1).bind fun t594 => (if t594 = true then ((tollbarlaw0_Num.f bt586.2).bind fun t595 => (tollbarlaw10_Levels.j0 k l1 l2 t580 t583 bt586.1 (t595 != bt590.2))) else (tollbarlaw10_Levels.j0 k l1 l2 t580 t583 bt586.1 true))))) = some r := H
 have A6 := Aside0.mk A60
 clear A60
 replace H := Option.bind_eq_some_iff.mp H
 obtain ⟨⟨t586, t589⟩, A70, H⟩ := H
 replace H : ((tollbarref4_Levels.f k a0_0 l0_1 l1 l2 a3).bind fun bt590 => ((tollbarlaw0_SameInts.f k t586 bt590.1).bind fun t594 => (if t594 = true then ((tollbarlaw0_Num.f t589).bind fun t595 => (tollbarlaw10_Levels.j0 k l1 l2 t580 t583 t586 (t595 != bt590.2))) else (tollbarlaw10_Levels.j0 k l1 l2 t580 t583 t586 true)))) = some r := H
 have A7 := Aside0.mk A70
 clear A70
 replace H := Option.bind_eq_some_iff.mp H
 obtain ⟨⟨t590, t593⟩, A80, H⟩ := H
 replace H : ((tollbarlaw0_SameInts.f k t586 t590).bind fun t594 => (if t594 = true then ((tollbarlaw0_Num.f t589).bind fun t595 => (tollbarlaw10_Levels.j0 k l1 l2 t580 t583 t586 (t595 != t593))) else (tollbarlaw10_Levels.j0 k l1 l2 t580 t583 t586 true))) = some r := H
 have A8 := Aside0.mk A80
 clear A80
 have HC9 := Aside0.mk H
 clear H
 go_enter Try.func7, Try.ntmps7
 go_upto_region 4 with (first | ((with_reducible refine gate_dst (N := 4) rfl ?_); refine box_event ?hg (N := 4) ?hd (cs := #[.int .i64 a0_0, .slice A0_1 l0_1.length c0_1]) (t := 24) ?hr ?_; (case hd => rfl); (case hg => rfl); (case hr => first | (go_simp; done) | (go_simp; rfl)); intro gb579 hg w10 hbox hb; have n0_ := Aside0.mk (below_step (by repeat (first | (with_reducible first | exact HB.out | apply below_alloc | apply pw_below_drewN | apply below_drew1) | exact HB.out)) hb); have n1_ := Aside0.mk (hbox); have n2_ := Aside0.mk ((by rw [hg]; exact (below_size (by repeat (first | (with_reducible first | exact HB.out | apply below_alloc | apply pw_below_drewN | apply below_drew1) | exact HB.out))) : w.heap.size ≤ gb579)); have n3_ := Aside0.mk ((by rw [hg]; exact (below_size (by repeat (first | (with_reducible first | exact HB.out | apply below_alloc | apply pw_below_drewN | apply below_drew1) | exact HB.out))) : w.heap.size ≤ gb579)); clear HB; have HB := n0_; have BK579 := n1_; have GW579 := n2_; have GE579 := n3_; clear n0_ n1_ n2_ n3_; clear hb hbox hg) | ((with_reducible refine gate_callee (f := 12) rfl ?_); refine goesL_ (some 16) rfl rfl Try.func12 (by kernel_rfl) rfl #[.slice A1 l1.length c1] rfl (by (try simp only [List.map_toArray, List.map_cons, List.map_nil]); first | done | rfl | (simp only [List.length_drop, List.length_take]; rfl)) ?_; (with_reducible refine (tollbarlaw0_LendInts.calls _ _ l1 t580 _ ?side1 ?side2 A5.out).mono ?_); (case side1 => repeat (first | exact (Kd.C_below HR1.out HB.out) | (with_reducible refine Kd.C_alloc ?_ _) | (with_reducible refine Kd.C_drewN ?_ _) | (with_reducible refine Kd.C_drew ?_))); (case side2 => exact HC1.out); rintro e w11 ⟨v581, rfl, hk0, hb⟩; obtain ⟨v581f, hvv581, ho0⟩ := kept_v hk0; clear hk0; refine ⟨_, rfl, ?_⟩; have n0_ := Aside0.mk (Kd.R_lower ho0 (below_size (by repeat (first | (with_reducible first | exact HB.out | apply below_alloc | apply pw_below_drewN | apply below_drew1 | refine below_set ?_ GE579.out) | exact HB.out)))); have n1_ := Aside0.mk (blk_below (g := gb579) (o := .cells #[.int .i64 a0_0, .slice A0_1 l0_1.length c0_1] 24 (0, 0)) (by (with_reducible repeat (first | refine blk_drewN ?_ _ | refine blk_drew ?_ | refine blk_alloc ?_ _)); exact BK579.out) hb); have n2_ := Aside0.mk (below_step (by repeat (first | (with_reducible first | exact HB.out | apply below_alloc | apply pw_below_drewN | apply below_drew1 | refine below_set ?_ GE579.out) | exact HB.out)) hb); clear BK579; clear HB; have HO582 := n0_; have BK579 := n1_; have HB := n2_; clear n0_ n1_ n2_; (try clear hb); (try clear hb2); (try clear hk); (try clear hi); (try clear ho0)) | ((with_reducible refine gate_callee (f := 12) rfl ?_); refine goesL_ (some 18) rfl rfl Try.func12 (by kernel_rfl) rfl #[.slice A2 l2.length c2] rfl (by (try simp only [List.map_toArray, List.map_cons, List.map_nil]); first | done | rfl | (simp only [List.length_drop, List.length_take]; rfl)) ?_; (with_reducible refine (tollbarlaw0_LendInts.calls _ _ l2 t583 _ ?side1 ?side2 A6.out).mono ?_); (case side1 => repeat (first | exact (Kd.C_below HR2.out HB.out) | (with_reducible refine Kd.C_alloc ?_ _) | (with_reducible refine Kd.C_drewN ?_ _) | (with_reducible refine Kd.C_drew ?_))); (case side2 => exact HC2.out); rintro e w12 ⟨v584, rfl, hk0, hb⟩; obtain ⟨v584f, hvv584, ho0⟩ := kept_v hk0; clear hk0; refine ⟨_, rfl, ?_⟩; have n0_ := Aside0.mk (Kd.R_elder' (by (with_reducible repeat (first | apply Kd.R_alloc | apply Kd.R_drewN | apply Kd.R_drew)); exact HO582.out) (Kd.R_base ho0) hb); have n1_ := Aside0.mk (Kd.R_lower (Kd.R_new' ho0 (Kd.R_lt (by (with_reducible repeat (first | apply Kd.R_alloc | apply Kd.R_drewN | apply Kd.R_drew)); exact HO582.out))) (below_size (by repeat (first | (with_reducible first | exact HB.out | apply below_alloc | apply pw_below_drewN | apply below_drew1 | refine below_set ?_ GE579.out) | exact HB.out)))); have n2_ := Aside0.mk (blk_below (g := gb579) (o := .cells #[.int .i64 a0_0, .slice A0_1 l0_1.length c0_1] 24 (0, 0)) (by (with_reducible repeat (first | refine blk_drewN ?_ _ | refine blk_drew ?_ | refine blk_alloc ?_ _)); exact BK579.out) hb); have n3_ := Aside0.mk (below_step (by repeat (first | (with_reducible first | exact HB.out | apply below_alloc | apply pw_below_drewN | apply below_drew1 | refine below_set ?_ GE579.out) | exact HB.out)) hb); clear HO582; clear BK579; clear HB; have HO582 := n0_; have HO585 := n1_; have BK579 := n2_; have HB := n3_; clear n0_ n1_ n2_ n3_; (try clear hb); (try clear hb2); (try clear hk); (try clear hi); (try clear ho0); have hcz13_0 : w12.cell? ⟨gb579, 0, none⟩ = some (.int .i64 a0_0) := (blk_cell BK579.out 0).trans rfl; have hcz13_1 : w12.cell? ⟨gb579, 1, none⟩ = some (.slice A0_1 l0_1.length c0_1) := (blk_cell BK579.out 1).trans rfl; have hfz13_0 := blk_frozen BK579.out 0; have hfz13_1 := blk_frozen BK579.out 1; obtain ⟨Ao14, co14, eo14⟩ := Kd.R_slice HO582.out; replace hvv581 := hvv581 _ _ eo14; subst eo14; subst hvv581; obtain ⟨Ao15, co15, eo15⟩ := Kd.R_slice HO585.out; replace hvv584 := hvv584 _ _ eo15; subst eo15; subst hvv584) | ((with_reducible refine gate_callee (f := 26) rfl ?_); refine goesL_ (some 24) rfl rfl Try.func26 (by kernel_rfl) rfl #[.agg #[.int .i64 a0_0, .slice A0_1 l0_1.length c0_1], .slice Ao14 t580.length co14, .slice Ao15 t583.length co15, .int .i64 a3] rfl (by (try simp only [List.map_toArray, List.map_cons, List.map_nil]); first | done | rfl | (simp only [List.length_drop, List.length_take]; rfl)) ?_; (with_reducible refine (level_Levels.calls k a0_0 _ _ l0_1 _ _ t580 _ _ t583 a3 t586 t589 _ ?side1 ?side2 ?side3 ?side4 ?side5 ?side6 A7.out).mono ?_); (case side1 => repeat (first | exact (Kd.C_below HR0_1.out HB.out) | (with_reducible refine Kd.C_alloc ?_ _) | (with_reducible refine Kd.C_drewN ?_ _) | (with_reducible refine Kd.C_drew ?_))); (case side2 => exact HC0_1.out); (case side3 => repeat (first | exact (kept_c (Kd.R_reads' HO582.out).2.2) | (with_reducible refine Kd.C_alloc ?_ _) | (with_reducible refine Kd.C_drewN ?_ _) | (with_reducible refine Kd.C_drew ?_))); (case side4 => exact (kept_le (Kd.R_reads' HO582.out).2.1)); (case side5 => repeat (first | exact (kept_c (Kd.R_reads' HO585.out).2.2) | (with_reducible refine Kd.C_alloc ?_ _) | (with_reducible refine Kd.C_drewN ?_ _) | (with_reducible refine Kd.C_drew ?_))); (case side6 => exact (kept_le (Kd.R_reads' HO585.out).2.1)); rintro e w16 ⟨v587, rfl, ho0, hb⟩; refine ⟨_, rfl, ?_⟩; have n0_ := Aside0.mk (Kd.R_elder' (by (with_reducible repeat (first | apply Kd.R_alloc | apply Kd.R_drewN | apply Kd.R_drew)); exact HO582.out) (Kd.R_base ho0) hb); have n1_ := Aside0.mk (Kd.R_elder' (by (with_reducible repeat (first | apply Kd.R_alloc | apply Kd.R_drewN | apply Kd.R_drew)); exact HO585.out) (Kd.R_base ho0) hb); have n2_ := Aside0.mk (Kd.R_lower (Kd.R_new' (Kd.R_new' ho0 (Kd.R_lt (by (with_reducible repeat (first | apply Kd.R_alloc | apply Kd.R_drewN | apply Kd.R_drew)); exact HO582.out))) (Kd.R_lt (by (with_reducible repeat (first | apply Kd.R_alloc | apply Kd.R_drewN | apply Kd.R_drew)); exact HO585.out))) (below_size (by repeat (first | (with_reducible first | exact HB.out | apply below_alloc | apply pw_below_drewN | apply below_drew1 | refine below_set ?_ GE579.out) | exact HB.out)))); have n3_ := Aside0.mk (blk_below (g := gb579) (o := .cells #[.int .i64 a0_0, .slice A0_1 l0_1.length c0_1] 24 (0, 0)) (by (with_reducible repeat (first | refine blk_drewN ?_ _ | refine blk_drew ?_ | refine blk_alloc ?_ _)); exact BK579.out) hb); have n4_ := Aside0.mk (below_step (by repeat (first | (with_reducible first | exact HB.out | apply below_alloc | apply pw_below_drewN | apply below_drew1 | refine below_set ?_ GE579.out) | exact HB.out)) hb); clear HO582; clear HO585; clear BK579; clear HB; have HO582 := n0_; have HO585 := n1_; have HO588 := n2_; have BK579 := n3_; have HB := n4_; clear n0_ n1_ n2_ n3_ n4_; (try clear hb); (try clear hb2); (try clear hk); (try clear hi); (try clear ho0); have hcz17_0 : w16.cell? ⟨gb579, 0, none⟩ = some (.int .i64 a0_0) := (blk_cell BK579.out 0).trans rfl; have hcz17_1 : w16.cell? ⟨gb579, 1, none⟩ = some (.slice A0_1 l0_1.length c0_1) := (blk_cell BK579.out 1).trans rfl; have hfz17_0 := blk_frozen BK579.out 0; have hfz17_1 := blk_frozen BK579.out 1) | ((with_reducible refine gate_callee (f := 27) rfl ?_); refine goesL_ (some 32) rfl rfl Try.func27 (by kernel_rfl) rfl #[.agg #[.int .i64 a0_0, .slice A0_1 l0_1.length c0_1], .slice A1 l1.length c1, .slice A2 l2.length c2, .int .i64 a3] rfl (by (try simp only [List.map_toArray, List.map_cons, List.map_nil]); first | done | rfl | (simp only [List.length_drop, List.length_take]; rfl)) ?_; (with_reducible refine (tollbarref4_Levels.calls k a0_0 _ _ l0_1 _ _ l1 _ _ l2 a3 t590 t593 _ ?side1 ?side2 ?side3 ?side4 ?side5 ?side6 A8.out).mono ?_); (case side1 => repeat (first | exact (Kd.C_below HR0_1.out HB.out) | (with_reducible refine Kd.C_alloc ?_ _) | (with_reducible refine Kd.C_drewN ?_ _) | (with_reducible refine Kd.C_drew ?_))); (case side2 => exact HC0_1.out); (case side3 => repeat (first | exact (Kd.C_below HR1.out HB.out) | (with_reducible refine Kd.C_alloc ?_ _) | (with_reducible refine Kd.C_drewN ?_ _) | (with_reducible refine Kd.C_drew ?_))); (case side4 => exact HC1.out); (case side5 => repeat (first | exact (Kd.C_below HR2.out HB.out) | (with_reducible refine Kd.C_alloc ?_ _) | (with_reducible refine Kd.C_drewN ?_ _) | (with_reducible refine Kd.C_drew ?_))); (case side6 => exact HC2.out); rintro e w18 ⟨v591, rfl, ho0, hb⟩; refine ⟨_, rfl, ?_⟩; have n0_ := Aside0.mk (Kd.R_elder' (by (with_reducible repeat (first | apply Kd.R_alloc | apply Kd.R_drewN | apply Kd.R_drew)); exact HO582.out) (Kd.R_base ho0) hb); have n1_ := Aside0.mk (Kd.R_elder' (by (with_reducible repeat (first | apply Kd.R_alloc | apply Kd.R_drewN | apply Kd.R_drew)); exact HO585.out) (Kd.R_base ho0) hb); have n2_ := Aside0.mk (Kd.R_elder' (by (with_reducible repeat (first | apply Kd.R_alloc | apply Kd.R_drewN | apply Kd.R_drew)); exact HO588.out) (Kd.R_base ho0) hb); have n3_ := Aside0.mk (Kd.R_lower (Kd.R_new' (Kd.R_new' (Kd.R_new' ho0 (Kd.R_lt (by (with_reducible repeat (first | apply Kd.R_alloc | apply Kd.R_drewN | apply Kd.R_drew)); exact HO582.out))) (Kd.R_lt (by (with_reducible repeat (first | apply Kd.R_alloc | apply Kd.R_drewN | apply Kd.R_drew)); exact HO585.out))) (Kd.R_lt (by (with_reducible repeat (first | apply Kd.R_alloc | apply Kd.R_drewN | apply Kd.R_drew)); exact HO588.out))) (below_size (by repeat (first | (with_reducible first | exact HB.out | apply below_alloc | apply pw_below_drewN | apply below_drew1 | refine below_set ?_ GE579.out) | exact HB.out)))); have n4_ := Aside0.mk (blk_below (g := gb579) (o := .cells #[.int .i64 a0_0, .slice A0_1 l0_1.length c0_1] 24 (0, 0)) (by (with_reducible repeat (first | refine blk_drewN ?_ _ | refine blk_drew ?_ | refine blk_alloc ?_ _)); exact BK579.out) hb); have n5_ := Aside0.mk (below_step (by repeat (first | (with_reducible first | exact HB.out | apply below_alloc | apply pw_below_drewN | apply below_drew1 | refine below_set ?_ GE579.out) | exact HB.out)) hb); clear HO582; clear HO585; clear HO588; clear BK579; clear HB; have HO582 := n0_; have HO585 := n1_; have HO588 := n2_; have HO592 := n3_; have BK579 := n4_; have HB := n5_; clear n0_ n1_ n2_ n3_ n4_ n5_; (try clear hb); (try clear hb2); (try clear hk); (try clear hi); (try clear ho0)))
 (try simp only [Act.put, List.setIfInBounds_toArray, List.set_cons_zero, List.set_cons_succ])
 go_cut [44] (fun v44 wc => ∃ (kq : Nat) (x44_8 : Bool), v44 = .bool x44_8 ∧ Aside0 (tollbarlaw10_Levels.j0 kq l1 l2 t580 t583 t586 x44_8 = some r) ∧ Aside0 (kq ≤ k) ∧ Aside0 (Kd.R (Kd.int .i64) 3 wc w.heap.size (fun k_ => some k_ ≠ ((.slice Ao15 (t583 ++ kz).length co15) : Value).ownBlock ∧ some k_ ≠ (v587 : Value).ownBlock) (.slice Ao14 (t580 ++ kz).length co14) (t580 ++ kz)) ∧ Aside0 (Kd.R (Kd.int .i64) 3 wc w.heap.size (fun k_ => some k_ ≠ ((.slice Ao14 (t580 ++ kz).length co14) : Value).ownBlock ∧ some k_ ≠ (v587 : Value).ownBlock) (.slice Ao15 (t583 ++ kz).length co15) (t583 ++ kz)) ∧ Aside0 (Kd.R (Kd.int .i64) 3 wc w.heap.size (fun k_ => some k_ ≠ ((.slice Ao14 (t580 ++ kz).length co14) : Value).ownBlock ∧ some k_ ≠ ((.slice Ao15 (t583 ++ kz).length co15) : Value).ownBlock) v587 t586) ∧ Aside0 (wc.heap[gb579]? = some (.cells #[.int .i64 a0_0, (.slice A0_1 l0_1.length c0_1)] 24 (0, 0))) ∧ Aside0 (Below w.heap.size w wc))
 case first =>
  have H := HC9.out
  clear HC9
  replace H := Option.bind_eq_some_iff.mp H
  obtain ⟨t594, A190, H⟩ := H
  replace H : (if t594 = true then ((tollbarlaw0_Num.f t589).bind fun t595 => (tollbarlaw10_Levels.j0 k l1 l2 t580 t583 t586 (t595 != t593))) else (tollbarlaw10_Levels.j0 k l1 l2 t580 t583 t586 true)) = some r := H
  have A19 := Aside0.mk A190
  clear A190
  by_cases c20 : t594 = true
  ·
   subst c20
   have H1 : ((tollbarlaw0_Num.f t589).bind fun t595 => (tollbarlaw10_Levels.j0 k l1 l2 t580 t583 t586 (t595 != t593))) = some r := by rw [if_pos rfl] at H; exact H
   clear H
   have H := H1
   clear H1
   replace H := Option.bind_eq_some_iff.mp H
   obtain ⟨t595, A210, H⟩ := H
   replace H : (tollbarlaw10_Levels.j0 k l1 l2 t580 t583 t586 (t595 != t593)) = some r := H
   have A21 := Aside0.mk A210
   clear A210
   have H' := Aside0.mk H
   clear H
   obtain ⟨Ao22, co22, eo22⟩ := Kd.R_slice HO588.out
   subst eo22
   obtain ⟨Ao23, co23, eo23⟩ := Kd.R_slice HO592.out
   subst eo23
   go_wp2_with (first | ((with_reducible refine gate_callee (f := 24) rfl ?_); refine goesL_ (some 37) rfl rfl Try.func24 (by kernel_rfl) rfl #[.slice Ao22 t586.length co22, .slice Ao23 t590.length co23] rfl (by (try simp only [List.map_toArray, List.map_cons, List.map_nil]); first | done | rfl | (simp only [List.length_drop, List.length_take]; rfl)) ?_; (with_reducible refine (tollbarlaw0_SameInts.calls k _ _ t586 _ _ t590 true _ ?side1 ?side2 ?side3 ?side4 A19.out).mono ?_); (case side1 => repeat (first | exact (Kd.R_reads' HO588.out).2.2 | (with_reducible refine Kd.C_alloc ?_ _) | (with_reducible refine Kd.C_drewN ?_ _) | (with_reducible refine Kd.C_drew ?_))); (case side2 => exact (Kd.R_reads' HO588.out).2.1); (case side3 => repeat (first | exact (Kd.R_reads' HO592.out).2.2 | (with_reducible refine Kd.C_alloc ?_ _) | (with_reducible refine Kd.C_drewN ?_ _) | (with_reducible refine Kd.C_drew ?_))); (case side4 => exact (Kd.R_reads' HO592.out).2.1); rintro e w' ⟨rfl, ⟨nd, rfl⟩⟩; refine ⟨_, rfl, ?_⟩) | (go_at_call 20; (with_reducible refine (tollbarlaw0_Num.calls t589 t595 _ A21.out).mono ?_); rintro e w' ⟨rfl, ⟨nd, rfl⟩⟩))
   go_meet
   case rel => exact ⟨_, ((t595 != t593)), (by first | rfl | (simp; done) | (simp [*]; done)), H', ⟨by first | omega | exact Nat.le_refl _⟩, ⟨by (with_reducible repeat (first | apply Kd.R_alloc | apply Kd.R_drewN | apply Kd.R_drew)); exact Kd.R_mono HO582.out (fun _ hk => ⟨hk.1.1.2, hk.1.2⟩)⟩, ⟨by (with_reducible repeat (first | apply Kd.R_alloc | apply Kd.R_drewN | apply Kd.R_drew)); exact Kd.R_mono HO585.out (fun _ hk => ⟨hk.1.1.2, hk.1.2⟩)⟩, ⟨by (with_reducible repeat (first | apply Kd.R_alloc | apply Kd.R_drewN | apply Kd.R_drew)); exact Kd.R_mono HO588.out (fun _ hk => ⟨hk.1.1.2, hk.1.2⟩)⟩, ⟨by (with_reducible repeat (first | refine blk_drewN ?_ _ | refine blk_drew ?_ | refine blk_alloc ?_ _)); exact BK579.out⟩, ⟨by repeat (first | (with_reducible first | exact HB.out | apply below_alloc | apply pw_below_drewN | apply below_drew1 | refine below_set ?_ GE579.out) | exact HB.out)⟩⟩
  ·
   replace c20 := Bool.eq_false_iff.mpr c20
   subst c20
   have H1 : (tollbarlaw10_Levels.j0 k l1 l2 t580 t583 t586 true) = some r := by rw [if_neg (show ¬ (false = true) by decide)] at H; exact H
   clear H
   have H := H1
   clear H1
   have H' := Aside0.mk H
   clear H
   obtain ⟨Ao24, co24, eo24⟩ := Kd.R_slice HO588.out
   subst eo24
   obtain ⟨Ao25, co25, eo25⟩ := Kd.R_slice HO592.out
   subst eo25
   go_wp2_with (first | ((with_reducible refine gate_callee (f := 24) rfl ?_); refine goesL_ (some 37) rfl rfl Try.func24 (by kernel_rfl) rfl #[.slice Ao24 t586.length co24, .slice Ao25 t590.length co25] rfl (by (try simp only [List.map_toArray, List.map_cons, List.map_nil]); first | done | rfl | (simp only [List.length_drop, List.length_take]; rfl)) ?_; (with_reducible refine (tollbarlaw0_SameInts.calls k _ _ t586 _ _ t590 false _ ?side1 ?side2 ?side3 ?side4 A19.out).mono ?_); (case side1 => repeat (first | exact (Kd.R_reads' HO588.out).2.2 | (with_reducible refine Kd.C_alloc ?_ _) | (with_reducible refine Kd.C_drewN ?_ _) | (with_reducible refine Kd.C_drew ?_))); (case side2 => exact (Kd.R_reads' HO588.out).2.1); (case side3 => repeat (first | exact (Kd.R_reads' HO592.out).2.2 | (with_reducible refine Kd.C_alloc ?_ _) | (with_reducible refine Kd.C_drewN ?_ _) | (with_reducible refine Kd.C_drew ?_))); (case side4 => exact (Kd.R_reads' HO592.out).2.1); rintro e w' ⟨rfl, ⟨nd, rfl⟩⟩; refine ⟨_, rfl, ?_⟩))
   go_meet
   case rel => exact ⟨_, (true), (by first | rfl | (simp; done) | (simp [*]; done)), H', ⟨by first | omega | exact Nat.le_refl _⟩, ⟨by (with_reducible repeat (first | apply Kd.R_alloc | apply Kd.R_drewN | apply Kd.R_drew)); exact Kd.R_mono HO582.out (fun _ hk => ⟨hk.1.1.2, hk.1.2⟩)⟩, ⟨by (with_reducible repeat (first | apply Kd.R_alloc | apply Kd.R_drewN | apply Kd.R_drew)); exact Kd.R_mono HO585.out (fun _ hk => ⟨hk.1.1.2, hk.1.2⟩)⟩, ⟨by (with_reducible repeat (first | apply Kd.R_alloc | apply Kd.R_drewN | apply Kd.R_drew)); exact Kd.R_mono HO588.out (fun _ hk => ⟨hk.1.1.2, hk.1.2⟩)⟩, ⟨by (with_reducible repeat (first | refine blk_drewN ?_ _ | refine blk_drew ?_ | refine blk_alloc ?_ _)); exact BK579.out⟩, ⟨by repeat (first | (with_reducible first | exact HB.out | apply below_alloc | apply pw_below_drewN | apply below_drew1 | refine below_set ?_ GE579.out) | exact HB.out)⟩⟩
 case rest =>
  clear HC9
  try clear c1
  try clear c2
  try clear p2
  try clear c7
  try clear c12
  try clear c20
  try clear c24
  try clear hcz13_0
  try clear hcz13_1
  try clear hcz17_0
  try clear hcz17_1
  try clear hfz13_0
  try clear hfz13_1
  try clear hfz17_0
  try clear hfz17_1
  obtain ⟨kq, x44_8, rfl, HA, HJ8, HO_9, HO_10, HO_11, BK579, HB⟩ := hcut
  cases kq with
  | zero => exact absurd HA.out (by simp [tollbarlaw10_Levels.j0])
  | succ kj8 =>
   have H := HA.out
   clear HA
   simp only [tollbarlaw10_Levels.j0] at H
   by_cases c26 : x44_8 = true
   ·
    subst c26
    have H1 : (none) = some r := by rw [if_pos rfl] at H; exact H
    clear H
    have H := H1
    clear H1
    exact absurd H (by simp)
   ·
    replace c26 := Bool.eq_false_iff.mpr c26
    subst c26
    have H1 : ((tollbarlaw0_SpoilInts.f kj8 t586).bind fun t596 => ((tollbarlaw10_awake.f kj8).bind fun t597 => (if t597 = true then ((tollbarlaw0_KeptInts.f kj8 t580 l1).bind fun t598 => (if t598 = true then ((tollbarlaw0_KeptInts.f kj8 t583 l2).bind fun t599 => (some t599)) else (none))) else (none)))) = some r := by rw [if_neg (show ¬ (false = true) by decide)] at H; exact H
    clear H
    have H := H1
    clear H1
    replace H := Option.bind_eq_some_iff.mp H
    obtain ⟨t596, A270, H⟩ := H
    replace H : ((tollbarlaw10_awake.f kj8).bind fun t597 => (if t597 = true then ((tollbarlaw0_KeptInts.f kj8 t580 l1).bind fun t598 => (if t598 = true then ((tollbarlaw0_KeptInts.f kj8 t583 l2).bind fun t599 => (some t599)) else (none))) else (none))) = some r := H
    have A27 := Aside0.mk A270
    clear A270
    replace H := Option.bind_eq_some_iff.mp H
    obtain ⟨t597, A280, H⟩ := H
    replace H : (if t597 = true then ((tollbarlaw0_KeptInts.f kj8 t580 l1).bind fun t598 => (if t598 = true then ((tollbarlaw0_KeptInts.f kj8 t583 l2).bind fun t599 => (some t599)) else (none))) else (none)) = some r := H
    have A28 := Aside0.mk A280
    clear A280
    by_cases c29 : t597 = true
    ·
     subst c29
     have H1 : ((tollbarlaw0_KeptInts.f kj8 t580 l1).bind fun t598 => (if t598 = true then ((tollbarlaw0_KeptInts.f kj8 t583 l2).bind fun t599 => (some t599)) else (none))) = some r := by rw [if_pos rfl] at H; exact H
     clear H
     have H := H1
     clear H1
     replace H := Option.bind_eq_some_iff.mp H
     obtain ⟨t598, A300, H⟩ := H
     replace H : (if t598 = true then ((tollbarlaw0_KeptInts.f kj8 t583 l2).bind fun t599 => (some t599)) else (none)) = some r := H
     have A30 := Aside0.mk A300
     clear A300
     by_cases c31 : t598 = true
     ·
      subst c31
      have H1 : ((tollbarlaw0_KeptInts.f kj8 t583 l2).bind fun t599 => (some t599)) = some r := by rw [if_pos rfl] at H; exact H
      clear H
      have H := H1
      clear H1
      replace H := Option.bind_eq_some_iff.mp H
      obtain ⟨t599, A320, H⟩ := H
      replace H : (some t599) = some r := H
      have A32 := Aside0.mk A320
      clear A320
      obtain rfl := Option.some.inj H
      obtain ⟨Ao33, co33, eo33⟩ := Kd.R_slice HO_11.out
      subst eo33
      go_wp2_with (first | ((with_reducible refine gate_callee (f := 25) rfl ?_); refine goesL_ (some 46) rfl rfl Try.func25 (by kernel_rfl) rfl #[.slice Ao33 t586.length co33] rfl (by (try simp only [List.map_toArray, List.map_cons, List.map_nil]); first | done | rfl | (simp only [List.length_drop, List.length_take]; rfl)) ?_; (with_reducible refine (tollbarlaw0_SpoilInts.calls kj8 (fun k_ => some k_ = (.slice Ao33 t586.length co33 : Value).ownBlock) (.slice Ao33 t586.length co33) t586 t596 w _ ?side1 ?side2 A27.out).mono ?_); (case side1 => repeat (first | (with_reducible first | exact HB.out | apply below_alloc | apply pw_below_drewN | apply below_drew1 | refine below_set ?_ GE579.out) | exact HB.out)); (case side2 => exact Kd.R_tight rfl HO_11.out); rintro e w34 ⟨rfl, hy0, hb, hkp⟩; refine ⟨_, rfl, ?_⟩; have n0_ := Aside0.mk (Kd.R_mono (ok' := fun k_ => some k_ ≠ (.slice Ao15 (t583 ++ kz).length co15 : Value).ownBlock ∧ some k_ ≠ (.slice Ao33 t586.length co33 : Value).ownBlock) (Kd.R_keptB (HO_9.out) hkp (fun k_ hk_ hs_ => (hk_.2) hs_)) (fun k_ hk_ => ⟨hk_.1.1, hk_.1.2⟩)); have n1_ := Aside0.mk (Kd.R_mono (ok' := fun k_ => some k_ ≠ (.slice Ao14 (t580 ++ kz).length co14 : Value).ownBlock ∧ some k_ ≠ (.slice Ao33 t586.length co33 : Value).ownBlock) (Kd.R_keptB (HO_10.out) hkp (fun k_ hk_ hs_ => (hk_.2) hs_)) (fun k_ hk_ => ⟨hk_.1.1, hk_.1.2⟩)); have n2_ := Aside0.mk (Kd.R_reok rfl hy0 (fun k_ e_ => HO_11.out.1 k_ e_)); have n3_ := Aside0.mk (blk_kept (by (with_reducible repeat (first | refine blk_drewN ?_ _ | refine blk_drew ?_ | refine blk_alloc ?_ _)); exact BK579.out) hkp (fun hs_ => (fun e_ => (Kd.R_ne HO_11.out BK579.out (by decide)) e_) hs_)); have n4_ := Aside0.mk (hb); clear HO_9; clear HO_10; clear HO_11; clear BK579; clear HB; have HO_9 := n0_; have HO_10 := n1_; have HO_11 := n2_; have BK579 := n3_; have HB := n4_; clear n0_ n1_ n2_ n3_ n4_; (try clear hb); (try clear hkp); (try clear hy0)) | ((with_reducible refine gate_callee (f := 28) rfl ?_); refine goesL_ (some 47) rfl rfl Try.func28 (by kernel_rfl) rfl #[] rfl (by (try simp only [List.map_toArray, List.map_cons, List.map_nil]); first | done | rfl | (simp only [List.length_drop, List.length_take]; rfl)) ?_; (with_reducible refine (tollbarlaw10_awake.calls kj8  true _ A28.out).mono ?_); rintro e w35 ⟨rfl, hb⟩; refine ⟨_, rfl, ?_⟩; have n0_ := Aside0.mk (Kd.R_below (by (with_reducible repeat (first | apply Kd.R_alloc | apply Kd.R_drewN | apply Kd.R_drew)); exact HO_9.out) hb); have n1_ := Aside0.mk (Kd.R_below (by (with_reducible repeat (first | apply Kd.R_alloc | apply Kd.R_drewN | apply Kd.R_drew)); exact HO_10.out) hb); have n2_ := Aside0.mk (Kd.R_below (by (with_reducible repeat (first | apply Kd.R_alloc | apply Kd.R_drewN | apply Kd.R_drew)); exact HO_11.out) hb); have n3_ := Aside0.mk (blk_below (g := gb579) (o := .cells #[.int .i64 a0_0, .slice A0_1 l0_1.length c0_1] 24 (0, 0)) (by (with_reducible repeat (first | refine blk_drewN ?_ _ | refine blk_drew ?_ | refine blk_alloc ?_ _)); exact BK579.out) hb); have n4_ := Aside0.mk (below_step (by repeat (first | (with_reducible first | exact HB.out | apply below_alloc | apply pw_below_drewN | apply below_drew1 | refine below_set ?_ GE579.out) | exact HB.out)) hb); clear HO_9; clear HO_10; clear HO_11; clear BK579; clear HB; have HO_9 := n0_; have HO_10 := n1_; have HO_11 := n2_; have BK579 := n3_; have HB := n4_; clear n0_ n1_ n2_ n3_ n4_; (try clear hb); (try clear hb2); (try clear hk); (try clear hi)) | (go_at_call 21; (with_reducible refine (tollbarlaw0_KeptInts.calls kj8 _ _ t580 _ _ l1 true _ ?side1 ?side2 ?side3 ?side4 A30.out).mono ?_); (case side1 => repeat (first | exact (Kd.R_reads' HO_9.out).2.2 | (with_reducible refine Kd.C_alloc ?_ _) | (with_reducible refine Kd.C_drewN ?_ _) | (with_reducible refine Kd.C_drew ?_))); (case side2 => exact (Kd.R_reads' HO_9.out).2.1); (case side3 => repeat (first | exact (Kd.C_below HR1.out HB.out) | (with_reducible refine Kd.C_alloc ?_ _) | (with_reducible refine Kd.C_drewN ?_ _) | (with_reducible refine Kd.C_drew ?_))); (case side4 => exact HC1.out); rintro e w' ⟨rfl, ⟨nd, rfl⟩⟩) | (go_at_call 21; (with_reducible refine (tollbarlaw0_KeptInts.calls kj8 _ _ t583 _ _ l2 t599 _ ?side1 ?side2 ?side3 ?side4 A32.out).mono ?_); (case side1 => repeat (first | exact (Kd.R_reads' HO_10.out).2.2 | (with_reducible refine Kd.C_alloc ?_ _) | (with_reducible refine Kd.C_drewN ?_ _) | (with_reducible refine Kd.C_drew ?_))); (case side2 => exact (Kd.R_reads' HO_10.out).2.1); (case side3 => repeat (first | exact (Kd.C_below HR2.out (by repeat (first | (with_reducible first | exact HB.out | apply below_alloc | apply pw_below_drewN | apply below_drew1 | refine below_set ?_ GE579.out) | exact HB.out))) | (with_reducible refine Kd.C_alloc ?_ _) | (with_reducible refine Kd.C_drewN ?_ _) | (with_reducible refine Kd.C_drew ?_))); (case side4 => exact HC2.out); rintro e w' ⟨rfl, ⟨nd, rfl⟩⟩))
      go_ret
      exact ⟨by first | rfl | (simp [errW_none, errW_some] <;> rfl) | (simp [*, errW_none, errW_some] <;> rfl), by repeat (first | (with_reducible first | exact HB.out | apply below_alloc | apply pw_below_drewN | apply below_drew1 | refine below_set ?_ GE579.out) | exact HB.out)⟩
     ·
      replace c31 := Bool.eq_false_iff.mpr c31
      subst c31
      have H1 : (none) = some r := by rw [if_neg (show ¬ (false = true) by decide)] at H; exact H
      clear H
      have H := H1
      clear H1
      exact absurd H (by simp)
    ·
     replace c29 := Bool.eq_false_iff.mpr c29
     subst c29
     have H1 : (none) = some r := by rw [if_neg (show ¬ (false = true) by decide)] at H; exact H
     clear H
     have H := H1
     clear H1
     exact absurd H (by simp)
end Go.Proofs.Ytcfbfghdkgakmaa.PAll
end
