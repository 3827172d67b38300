/- Texts of this claim, one behind the other: QP5P. -/
import Derived.Test.YtbbdbnikogmidaaAfdd642
import Derived.Test.YtbbdbnikogmidaaA371814
import Derived.Test.YtbbdbnikogmidaaAaa8f9c
import Derived.Test.YtbbdbnikogmidaaAe47383
section
/- ArcsPairs on what is printed: plain. -/
namespace Go.Proofs.Ytbbdbnikogmidaa.Q
open Go.RowKit Go.Proofs.YtbbdbnikogmidaaW.PrintWords Go.Proofs.YtbbdbnikogmidaaW.PrintMore Go.Proofs.Ytbbdbnikogmidaa.PAll Go.Proofs.Ytbbdbnikogmidaa.Plain
set_option linter.unusedVariables false
set_option linter.unusedSimpArgs false
attribute [local instance] Classical.propDecidable

theorem pairs_seen (V : Int) (ls : List S66) (h : GOk V ls) {r : Bool} (hr : Ev (fun k => tollbarlaw5_ArcsPairs.l1 k (tab (2 * ls.length) (fun k => ((order (net V ls)).count k : Int))) 0 V ls (starts (net V ls)) (order (net V ls)) (heads (net V ls))) r) (d : Nat) : ∀ (i : Nat), i ≤ (order (net V ls)).length → (order (net V ls)).length - i = d →
    Ev (fun k => tollbarlaw5_ArcsPairs.l0 k (tab (2 * ls.length) (fun k => (((order (net V ls)).take i).count k : Int))) (i : Int) V ls (starts (net V ls)) (order (net V ls)) (heads (net V ls))) r := by
  have hm := h.m16
  have hl := order_length h
  induction d with
  | zero =>
    intro i hi hd
    obtain rfl : i = (order (net V ls)).length := by omega
    refine Ev.step (fun k => by rw [tollbarlaw5_ArcsPairs.l0]) ?_
    refine Ev.ite_neg (by omega) ?_
    rw [List.take_length]
    exact hr
  | succ d ih =>
    intro i hi hd
    have X := ih (i + 1) (by omega) (by omega)
    have hmem : rd (order (net V ls)) (i : Int) ∈ order (net V ls) := gd_mem (by omega)
    have ha := order_arc hmem
    unfold Net.arc at ha
    rw [net_m] at ha
    refine Ev.step (fun k => by rw [tollbarlaw5_ArcsPairs.l0]) ?_
    refine Ev.ite_pos (by omega) ?_
    refine Ev.ite_pos (by omega) ?_
    refine Ev.ite_neg (by omega) ?_
    refine Ev.ite_neg (by rw [tab_len]; omega) ?_
    refine Ev.ite_pos (by omega) ?_
    refine Ev.ite_pos (by rw [tab_len]; omega) ?_
    have hil : i < (order (net V ls)).length := by omega
    have et : (order (net V ls)).take (i + 1) = (order (net V ls)).take i ++ [rd (order (net V ls)) (i : Int)] := by
      rw [List.take_succ_eq_append_getElem hil]
      simp only [rd, Int.toNat_natCast, List.getD_eq_getElem?_getD, List.getElem?_eq_getElem hil]
      rfl
    have key : (tab (2 * ls.length) (fun k => (((order (net V ls)).take i).count k : Int))).set (rd (order (net V ls)) (i : Int)).toNat
        (wrap64 (rd (tab (2 * ls.length) (fun k => (((order (net V ls)).take i).count k : Int))) (rd (order (net V ls)) (i : Int)) + 1))
        = tab (2 * ls.length) (fun k => (((order (net V ls)).take (i + 1)).count k : Int)) := by
      refine eq_tab (by rw [List.length_set, tab_len]) (fun k k0 k1 => ?_)
      have hc : List.count (rd (order (net V ls)) (i : Int)) ((order (net V ls)).take i) ≤ 32 := by
        have := List.count_le_length (a := rd (order (net V ls)) (i : Int)) (l := (order (net V ls)).take i)
        rw [List.length_take] at this
        omega
      rw [rd_set (by omega) (by rw [tab_len]; omega) k0, rd_tab (by omega) (by omega), rd_tab k0 k1, et, List.count_append, wrap_id (by omega) (by omega)]
      by_cases e : k = rd (order (net V ls)) (i : Int)
      · rw [if_pos e, ← e]; simp
      · rw [if_neg e]
        have : ¬ rd (order (net V ls)) (i : Int) = k := fun g => e g.symm
        simp [this]
    rw [← key] at X
    have e3 : wrap64 ((i : Int) + 1) = ((i + 1 : Nat) : Int) := wrap_succ (by omega)
    exact Ev.congr (fun k => by rw [e3]) X

theorem pairs_check (V : Int) (ls : List S66) (h : GOk V ls) (d : Nat) : ∀ (i : Nat), i ≤ ls.length → ls.length - i = d →
    Ev (fun k => tollbarlaw5_ArcsPairs.l1 k (tab (2 * ls.length) (fun k => ((order (net V ls)).count k : Int))) (i : Int) V ls (starts (net V ls)) (order (net V ls)) (heads (net V ls))) true := by
  have hm := h.m16
  have hhl := heads_len (net V ls)
  rw [net_m] at hhl
  induction d with
  | zero =>
    intro i hi hd
    refine Ev.step (fun k => by rw [tollbarlaw5_ArcsPairs.l1]) ?_
    refine Ev.ite_neg (by omega) ?_
    exact Ev.bind awake5 (Ev.now _)
  | succ d ih =>
    intro i hi hd
    have X := ih (i + 1) (by omega) (by omega)
    have w1 : wrap64 (2 * (i : Int)) = 2 * (i : Int) := wrap_id (by omega) (by omega)
    have w2 : wrap64 (2 * (i : Int) + 1) = 2 * (i : Int) + 1 := wrap_id (by omega) (by omega)
    have c1 : rd (tab (2 * ls.length) (fun k => ((order (net V ls)).count k : Int))) (2 * (i : Int)) = 1 := by
      clear w1 w2
      rw [rd_tab (by omega) (by omega), order_count h (by unfold Net.arc; rw [net_m]; omega)]; rfl
    have c2 : rd (tab (2 * ls.length) (fun k => ((order (net V ls)).count k : Int))) (2 * (i : Int) + 1) = 1 := by
      clear w1 w2
      rw [rd_tab (by omega) (by omega), order_count h (by unfold Net.arc; rw [net_m]; omega)]; rfl
    have d1 : rd (heads (net V ls)) (2 * (i : Int)) = (rd_T66 ls (i : Int)).f1 := by
      clear w1 w2
      rw [rd_heads _ (by omega) (by rw [net_m]; omega)]
      unfold head
      rw [if_neg (by omega), show 2 * (i : Int) / 2 = i by omega]; rfl
    have d2 : rd (heads (net V ls)) (2 * (i : Int) + 1) = (rd_T66 ls (i : Int)).f0 := by
      clear w1 w2
      rw [rd_heads _ (by omega) (by rw [net_m]; omega)]
      unfold head
      rw [if_pos (by omega), show (2 * (i : Int) + 1) / 2 = i by omega]; rfl
    refine Ev.step (fun k => by rw [tollbarlaw5_ArcsPairs.l1]) ?_
    rw [w1, w2, c1, c2, d1, d2]
    clear w1 w2
    refine Ev.ite_pos (by omega) ?_
    refine Ev.ite_pos (by omega) ?_
    refine Ev.ite_pos (by rw [tab_len]; omega) ?_
    refine Ev.ite_pos rfl ?_
    refine Ev.ite_pos (by omega) ?_
    refine Ev.ite_pos (by rw [tab_len]; omega) ?_
    refine Ev.ite_pos rfl ?_
    refine Ev.ite_pos (by omega) ?_
    refine Ev.ite_pos (by omega) ?_
    refine Ev.ite_pos rfl ?_
    refine Ev.ite_pos (by omega) ?_
    refine Ev.ite_pos rfl ?_
    have e3 : wrap64 ((i : Int) + 1) = ((i + 1 : Nat) : Int) := wrap_succ (by omega)
    exact Ev.congr (fun k => by rw [e3]) X

theorem ArcsPairs (V : Int) (ls : List S66) : Ev (fun k => tollbarlaw5_ArcsPairs.f k V ls) true := by
  unfold tollbarlaw5_ArcsPairs.f
  refine Ev.bind (arcs_Build_ev V ls) ?_
  by_cases h : GOk V ls
  · rw [if_pos h]
    have hm := h.m16
    have hol := order_length h
    refine Ev.call (Num_eq _) ?_
    refine Ev.ite_pos rfl ?_
    rw [twice_ (by omega)]
    refine Ev.ite_pos (by show ((heads _).length : Int) = _; rw [heads_len, net_m]; omega) ?_
    have e : (((order (net V ls)).length : Int) != 2 * (ls.length : Int)) = false := by rw [hol]; simp
    show Ev (fun k => tollbarlaw5_ArcsPairs.j0 k (((order (net V ls)).length : Int) != 2 * (ls.length : Int)) V ls (starts (net V ls)) (order (net V ls)) (heads (net V ls))) true
    rw [e]
    refine Ev.step (fun k => by rw [tollbarlaw5_ArcsPairs.j0]) ?_
    rw [twice_ (by omega)]
    refine Ev.ite_neg (by simp) ?_
    refine Ev.ite_pos (by omega) ?_
    refine Ev.ite_pos (by omega) ?_
    have X := pairs_seen V ls h (pairs_check V ls h ls.length 0 (by omega) (by omega)) (order (net V ls)).length 0 (by omega) (by omega)
    have e2 : tab (2 * ls.length) (fun k => (((order (net V ls)).take 0).count k : Int)) = List.replicate (2 * (ls.length : Int)).toNat 0 := by
      rw [show (2 * (ls.length : Int)).toNat = 2 * ls.length by omega]
      exact (eq_tab (by simp) (fun i a b => by rw [rd_rep a b]; simp)).symm
    rw [e2] at X
    exact X
  · rw [if_neg h]
    refine Ev.call (Num_eq _) ?_
    refine Ev.ite_neg (by decide) ?_
    exact Ev.now _
end Go.Proofs.Ytbbdbnikogmidaa.Q
end
