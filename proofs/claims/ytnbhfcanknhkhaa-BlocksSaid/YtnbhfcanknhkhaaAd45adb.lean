/- Texts of this claim, one behind the other: QBlocks. -/
import Derived.Test.YtnbhfcanknhkhaaA4cc583
import Derived.Test.YtnbhfcanknhkhaaA449cc4
import Derived.Test.YtnbhfcanknhkhaaA457ee1
import Derived.Test.YtnbhfcanknhkhaaA3437d3
import Derived.Test.YtnbhfcanknhkhaaAb84e71
import Derived.Test.YtnbhfcanknhkhaaA472b66
section
/- What the law Blocks leans on, and the law itself on what its printed walk tells: plain. -/
namespace Go.Proofs.Ytnbhfcanknhkhaa.Q
open Go.RowKit Go.Proofs.YtnbhfcanknhkhaaW.PrintWords Go.Proofs.YtnbhfcanknhkhaaW.PrintMore Go.Proofs.Ytnbhfcanknhkhaa.PAll Go.Proofs.Ytnbhfcanknhkhaa.Plain
set_option linter.unusedVariables false
set_option linter.unusedSimpArgs false
attribute [local instance] Classical.propDecidable
theorem S_prefix {f : Int → Int} {n m : Nat} (h : ∀ i : Int, 0 ≤ i → i < (m : Int) → 0 ≤ f i) (hn : n ≤ m) : S n f ≤ S m f := by
 induction m with
 | zero => obtain rfl : n = 0 := by omega
           exact Int.le_refl _
 | succ m ih =>
  by_cases e : n = m + 1
  · subst e; exact Int.le_refl _
  · have h1 := ih (fun i a b => h i a (by omega)) (by omega)
    have h2 := h (m : Int) (by omega) (by omega)
    simp only [S]
    omega
theorem rate_Is_eq (x : Int) : rate_Is.f x = some (decide (0 ≤ x ∧ x ≤ 4611686018427387904)) := by
 unfold rate_Is.f
 by_cases h : x ≥ 0
 · rw [if_pos h]; congr 1; simp; omega
 · rw [if_neg h]; congr 1; simp; omega
def SumOk (xs : List Int) : Prop := (∀ i : Int, 0 ≤ i → i < (xs.length : Int) → 0 ≤ rd xs i) ∧ S xs.length (rd xs) ≤ 4611686018427387904
theorem sum_loop (xs : List Int) (hx : xs.length ≤ 4611686018427387904) (d : Nat) : ∀ (i : Nat), i ≤ xs.length → xs.length - i = d → (∀ j : Int, 0 ≤ j → j < (i : Int) → 0 ≤ rd xs j) → S i (rd xs) ≤ 4611686018427387904 →
 Ev (fun k => rate_Sum.l0 k (S i (rd xs)) xs (xs.length : Int) (i : Int)) (if SumOk xs then (S xs.length (rd xs), true) else (0, false)) := by
 induction d with
 | zero =>
  intro i hi hd hp hs
  obtain rfl : i = xs.length := by omega
  refine Ev.step (fun k => by rw [rate_Sum.l0]) ?_
  refine Ev.ite_neg (by omega) ?_
  rw [if_pos ⟨hp, hs⟩]
  exact Ev.now _
 | succ d ih =>
  intro i hi hd hp hs
  have h0 : 0 ≤ S i (rd xs) := S_nonneg hp
  refine Ev.step (fun k => by rw [rate_Sum.l0]) ?_
  refine Ev.ite_pos (by omega) ?_
  refine Ev.ite_pos (by omega) ?_
  refine Ev.ite_pos (by omega) ?_
  refine Ev.call (rate_Is_eq _) ?_
  by_cases hr : 0 ≤ rd xs i ∧ rd xs i ≤ 4611686018427387904
  · refine Ev.ite_pos (dt hr) ?_
    by_cases hm : rd xs i > 4611686018427387904 - S i (rd xs)
    · refine Ev.ite_pos (by rw [wrap_id (by omega) (by omega)]; exact hm) ?_
      rw [if_neg]
      · exact Ev.now _
      · intro ho
        have := S_prefix (n := i + 1) ho.1 (by omega)
        simp only [S] at this
        have := ho.2
        omega
    · refine Ev.ite_neg (by rw [wrap_id (by omega) (by omega)]; exact hm) ?_
      have e2 : wrap64 (S i (rd xs) + rd xs i) = S (i + 1) (rd xs) := by rw [wrap_id (by omega) (by omega)]; rfl
      have e3 : wrap64 ((i : Int) + 1) = ((i + 1 : Nat) : Int) := wrap_succ (by omega)
      refine Ev.congr (fun k => by rw [e2, e3]) (ih (i + 1) (by omega) (by omega) ?_ ?_)
      · intro j a b
        by_cases e : j = i
        · subst e; exact hr.1
        · exact hp j a (by omega)
      · simp only [S]; omega
  · refine Ev.ite_neg (by simp only [decide_eq_true_eq]; exact hr) ?_
    rw [if_neg]
    · exact Ev.now _
    · intro ho
      have h1 := ho.1 i (by omega) (by omega)
      have := S_one_le ho.1 (k := (i : Int)) (by omega) (by omega)
      have := ho.2
      exact hr ⟨h1, by omega⟩
theorem rate_Sum_ev (xs : List Int) (hx : xs.length ≤ 4611686018427387904) : Ev (fun k => rate_Sum.f k xs) (if SumOk xs then (S xs.length (rd xs), true) else (0, false)) :=
 sum_loop xs hx xs.length 0 (by omega) (by omega) (fun j a b => by omega) (by simp [S])
def lA (ls : List S53) (i : Int) : Int := (rd_T53 ls i).f0
def lB (ls : List S53) (i : Int) : Int := (rd_T53 ls i).f1
def lC (ls : List S53) (i : Int) : Int := (rd_T53 ls i).f2
def net (V : Int) (ls : List S53) : Net := { V := V.toNat, m := ls.length, a := lA ls, b := lB ls }
structure GOk (V : Int) (ls : List S53) : Prop where
 v2 : 2 ≤ V
 v8 : V ≤ 8
 m16 : ls.length ≤ 16
 ends : (net V ls).ok
 cap : ∀ i : Int, 0 ≤ i → i < (ls.length : Int) → 0 ≤ lC ls i
 sum : S ls.length (lC ls) ≤ 4611686018427387904
theorem net_V {V : Int} {ls : List S53} (h : 0 ≤ V) : ((net V ls).V : Int) = V := by simp only [net]; omega
theorem net_m {V : Int} {ls : List S53} : (net V ls).m = ls.length := rfl
theorem GOk.end_ {V : Int} {ls : List S53} (h : GOk V ls) {i : Int} (h0 : 0 ≤ i) (h1 : i < (ls.length : Int)) : (0 ≤ lA ls i ∧ lA ls i < V) ∧ (0 ≤ lB ls i ∧ lB ls i < V) ∧ lA ls i ≠ lB ls i := by
 have := h.ends.h i h0 h1
 have e := net_V (V := V) (ls := ls) (by have := h.v2; omega)
 rw [e] at this
 exact this
theorem GOk.cap_le {V : Int} {ls : List S53} (h : GOk V ls) {i : Int} (h0 : 0 ≤ i) (h1 : i < (ls.length : Int)) : lC ls i ≤ 4611686018427387904 := by
 have := S_one_le h.cap h0 h1
 have := h.sum
 omega
theorem rd_map_cap (ls : List S53) {i : Int} (h0 : 0 ≤ i) (h1 : i < (ls.length : Int)) : rd (ls.map (·.f2)) i = lC ls i := by
 unfold rd lC rd_T53
 have hl : i.toNat < ls.length := by omega
 simp only [List.getD_eq_getElem?_getD, List.getElem?_map, List.getElem?_eq_getElem hl]
 rfl
theorem caps_loop (V : Int) (ls : List S53) (hx : ls.length ≤ 17592186044416) (d : Nat) : ∀ (i : Nat), i ≤ ls.length → ls.length - i = d →
 Ev (fun k => graph_Caps.l0 k ((ls.take i).map (·.f2)) ls (ls.length : Int) (i : Int)) (ls.map (·.f2)) := by
 induction d with
 | zero =>
  intro i hi hd
  obtain rfl : i = ls.length := by omega
  refine Ev.step (fun k => by rw [graph_Caps.l0]) ?_
  refine Ev.ite_neg (by omega) ?_
  rw [List.take_length]
  exact Ev.now _
 | succ d ih =>
  intro i hi hd
  refine Ev.step (fun k => by rw [graph_Caps.l0]) ?_
  refine Ev.ite_pos (by omega) ?_
  refine Ev.ite_pos (by omega) ?_
  refine Ev.ite_pos (by omega) ?_
  refine Ev.ite_pos (by simp; omega) ?_
  have e3 : wrap64 ((i : Int) + 1) = ((i + 1 : Nat) : Int) := wrap_succ (by omega)
  have e4 : (ls.take i).map (·.f2) ++ [(rd_T53 ls (i : Int)).f2] = (ls.take (i + 1)).map (·.f2) := by
   have hl : i < ls.length := by omega
   rw [List.take_succ_eq_append_getElem hl, List.map_append]
   simp only [rd_T53, Int.toNat_natCast, List.getD_eq_getElem?_getD, List.getElem?_eq_getElem hl]
   rfl
  exact Ev.congr (fun k => by rw [e3, e4]) (ih (i + 1) (by omega) (by omega))
theorem graph_Caps_ev (V : Int) (ls : List S53) (hx : ls.length ≤ 17592186044416) : Ev (fun k => graph_Caps.f k V ls) (ls.map (·.f2)) :=
 caps_loop V ls hx ls.length 0 (by omega) (by omega)
theorem graph_Has_eq (V : Int) (ls : List S53) (v : Int) : graph_Has.f V ls v = some (decide (0 ≤ v ∧ v < V)) := by
 unfold graph_Has.f
 by_cases h : v ≥ 0
 · rw [if_pos h]; congr 1; simp; omega
 · rw [if_neg h]; congr 1; simp; omega
theorem ref_Vertex_eq (V : Int) (ls : List S53) (v : Int) : r4_Vertex.f V ls v = some (decide (0 ≤ v ∧ v < V)) := by
 unfold r4_Vertex.f
 by_cases h : v ≥ 0
 · rw [if_pos h]; congr 1; simp; omega
 · rw [if_neg h]; congr 1; simp; omega
theorem caps_sum (ls : List S53) : SumOk (ls.map (·.f2)) ↔ (∀ i : Int, 0 ≤ i → i < (ls.length : Int) → 0 ≤ lC ls i) ∧ S ls.length (lC ls) ≤ 4611686018427387904 := by
 have e : S (ls.map (·.f2)).length (rd (ls.map (·.f2))) = S ls.length (lC ls) := by
  rw [List.length_map]
  exact S_congr (fun i a b => rd_map_cap ls a b)
 unfold SumOk
 rw [e, List.length_map]
 constructor
 · rintro ⟨h1, h2⟩
   exact ⟨fun i a b => by rw [← rd_map_cap ls a b]; exact h1 i a b, h2⟩
 · rintro ⟨h1, h2⟩
   exact ⟨fun i a b => by rw [rd_map_cap ls a b]; exact h1 i a b, h2⟩
def LinkOk (V : Int) (ls : List S53) (i : Int) : Prop := (0 ≤ lA ls i ∧ lA ls i < V) ∧ (0 ≤ lB ls i ∧ lB ls i < V) ∧ lA ls i ≠ lB ls i
theorem gok_iff (V : Int) (ls : List S53) : GOk V ls ↔ 2 ≤ V ∧ V ≤ 8 ∧ ls.length ≤ 16 ∧ (∀ i : Int, 0 ≤ i → i < (ls.length : Int) → LinkOk V ls i) ∧ (∀ i : Int, 0 ≤ i → i < (ls.length : Int) → 0 ≤ lC ls i) ∧ S ls.length (lC ls) ≤ 4611686018427387904 := by
 constructor
 · intro h
   exact ⟨h.v2, h.v8, h.m16, fun i a b => h.end_ a b, h.cap, h.sum⟩
 · rintro ⟨h1, h2, h3, h4, h5, h6⟩
   refine ⟨h1, h2, h3, ⟨fun i a b => ?_⟩, h5, h6⟩
   rw [net_V (by omega)]
   exact h4 i a b
theorem may_loop (V : Int) (ls : List S53) (hv : 2 ≤ V ∧ V ≤ 8) (hm : ls.length ≤ 16) (d : Nat) : ∀ (i : Nat), i ≤ ls.length → ls.length - i = d → (∀ j : Int, 0 ≤ j → j < (i : Int) → LinkOk V ls j) →
 Ev (fun k => graph_May.l0 k ls (ls.length : Int) (i : Int) V ls) (decide (GOk V ls)) := by
 induction d with
 | zero =>
  intro i hi hd hp
  obtain rfl : i = ls.length := by omega
  refine Ev.step (fun k => by rw [graph_May.l0]) ?_
  refine Ev.ite_neg (by omega) ?_
  refine Ev.bind (graph_Caps_ev V ls (by omega)) ?_
  refine Ev.bind (rate_Sum_ev _ (by rw [List.length_map]; omega)) ?_
  have : (if SumOk (ls.map (·.f2)) then (S (ls.map (·.f2)).length (rd (ls.map (·.f2))), true) else ((0 : Int), false)).2 = decide (GOk V ls) := by
   by_cases hs : SumOk (ls.map (·.f2))
   · rw [if_pos hs, decide_eq_true]
     rw [gok_iff]
     have := (caps_sum ls).1 hs
     exact ⟨hv.1, hv.2, hm, hp, this.1, this.2⟩
   · rw [if_neg hs, decide_eq_false]
     rw [gok_iff]
     rintro ⟨_, _, _, _, h5, h6⟩
     exact hs ((caps_sum ls).2 ⟨h5, h6⟩)
  rw [this]
  exact Ev.now _
 | succ d ih =>
  intro i hi hd hp
  have no : ¬ LinkOk V ls i → ¬ GOk V ls := fun h g => h (((gok_iff V ls).1 g).2.2.2.1 i (by omega) (by omega))
  refine Ev.step (fun k => by rw [graph_May.l0]) ?_
  refine Ev.ite_pos (by omega) ?_
  refine Ev.ite_pos (by omega) ?_
  refine Ev.ite_pos (by omega) ?_
  refine Ev.call (graph_Has_eq _ _ _) ?_
  by_cases ha : 0 ≤ lA ls i ∧ lA ls i < V
  · refine Ev.ite_pos (dt ha) ?_
    refine Ev.call (graph_Has_eq _ _ _) ?_
    by_cases hb : 0 ≤ lB ls i ∧ lB ls i < V
    · refine Ev.ite_pos (dt hb) ?_
      by_cases he : lA ls i = lB ls i
      · refine Ev.ite_pos he ?_
        rw [df (no (fun h => h.2.2 he))]
        exact Ev.now _
      · refine Ev.ite_neg he ?_
        have e3 : wrap64 ((i : Int) + 1) = ((i + 1 : Nat) : Int) := wrap_succ (by omega)
        refine Ev.congr (fun k => by rw [e3]) (ih (i + 1) (by omega) (by omega) ?_)
        intro j a b
        by_cases e : j = i
        · subst e; exact ⟨ha, hb, he⟩
        · exact hp j a (by omega)
    · refine Ev.ite_neg (by simp only [decide_eq_true_eq]; exact hb) ?_
      rw [df (no (fun h => hb h.2.1))]
      exact Ev.now _
  · refine Ev.ite_neg (by simp only [decide_eq_true_eq]; exact ha) ?_
    rw [df (no (fun h => ha h.1))]
    exact Ev.now _
theorem graph_May_ev (V : Int) (ls : List S53) : Ev (fun k => graph_May.f k V ls) (decide (GOk V ls)) := by
 have no : ¬ (2 ≤ V ∧ V ≤ 8 ∧ ls.length ≤ 16) → Ev (fun k => graph_May.j0 k true V ls) (decide (GOk V ls)) := by
  intro h
  rw [df (fun g => h ⟨g.v2, g.v8, g.m16⟩)]
  refine Ev.step (fun k => by rw [graph_May.j0]) ?_
  exact Ev.ite_pos rfl (Ev.now _)
 unfold graph_May.f
 by_cases h1 : V < 2
 · exact Ev.ite_pos h1 (no (by omega))
 · refine Ev.ite_neg h1 ?_
   by_cases h2 : V > 8
   · exact Ev.ite_pos h2 (no (by omega))
   · refine Ev.ite_neg h2 ?_
     by_cases h3 : (ls.length : Int) > 16
     · rw [dt h3]; exact no (by omega)
     · rw [df h3]
       refine Ev.step (fun k => by rw [graph_May.j0]) ?_
       refine Ev.ite_neg (by simp) ?_
       exact may_loop V ls (by omega) (by omega) ls.length 0 (by omega) (by omega) (fun j a b => by omega)
theorem refmay_loop (V : Int) (ls : List S53) (hv : 2 ≤ V ∧ V ≤ 8) (hm : ls.length ≤ 16) (d : Nat) : ∀ (i : Nat), i ≤ ls.length → ls.length - i = d → (∀ j : Int, 0 ≤ j → j < (i : Int) → LinkOk V ls j ∧ 0 ≤ lC ls j) → S i (lC ls) ≤ 4611686018427387904 →
 Ev (fun k => r4_GraphMay.l0 k (S i (lC ls)) (i : Int) V ls) (decide (GOk V ls)) := by
 induction d with
 | zero =>
  intro i hi hd hp hs
  obtain rfl : i = ls.length := by omega
  refine Ev.step (fun k => by rw [r4_GraphMay.l0]) ?_
  refine Ev.ite_neg (by omega) ?_
  rw [dt ((gok_iff V ls).2 ⟨hv.1, hv.2, hm, fun j a b => (hp j a b).1, fun j a b => (hp j a b).2, hs⟩)]
  exact Ev.now _
 | succ d ih =>
  intro i hi hd hp hs
  have h0 : 0 ≤ S i (lC ls) := S_nonneg (fun j a b => (hp j a b).2)
  have no : ¬ LinkOk V ls i → ¬ GOk V ls := fun h g => h (((gok_iff V ls).1 g).2.2.2.1 i (by omega) (by omega))
  refine Ev.step (fun k => by rw [r4_GraphMay.l0]) ?_
  refine Ev.ite_pos (by omega) ?_
  refine Ev.ite_pos (by omega) ?_
  refine Ev.call (ref_Vertex_eq _ _ _) ?_
  by_cases ha : 0 ≤ lA ls i ∧ lA ls i < V
  · refine Ev.ite_pos (dt ha) ?_
    refine Ev.call (ref_Vertex_eq _ _ _) ?_
    by_cases hb : 0 ≤ lB ls i ∧ lB ls i < V
    · refine Ev.ite_pos (dt hb) ?_
      by_cases he : lA ls i = lB ls i
      · refine Ev.ite_pos he ?_
        rw [df (no (fun h => h.2.2 he))]
        exact Ev.now _
      · refine Ev.ite_neg he ?_
        by_cases hc : lC ls i < 0
        · refine Ev.ite_pos hc ?_
          rw [df (fun g => by have := g.cap i (by omega) (by omega); omega)]
          exact Ev.now _
        · refine Ev.ite_neg hc ?_
          by_cases hm2 : lC ls i > 4611686018427387904 - S i (lC ls)
          · refine Ev.ite_pos (by rw [wrap_id (by omega) (by omega)]; exact hm2) ?_
            rw [df (fun g => by
             have := S_prefix (n := i + 1) g.cap (by omega)
             simp only [S] at this
             have := g.sum
             omega)]
            exact Ev.now _
          · refine Ev.ite_neg (by rw [wrap_id (by omega) (by omega)]; exact hm2) ?_
            have X := ih (i + 1) (by omega) (by omega) (fun j a b => by
             by_cases e : j = i
             · subst e; exact ⟨⟨ha, hb, he⟩, by omega⟩
             · exact hp j a (by omega)) (by simp only [S]; omega)
            have e2 : wrap64 (S i (lC ls) + lC ls i) = S (i + 1) (lC ls) := by rw [wrap_id (by omega) (by omega)]; rfl
            have e3 : wrap64 ((i : Int) + 1) = ((i + 1 : Nat) : Int) := wrap_succ (by omega)
            exact Ev.congr (fun k => by rw [← e2, ← e3]; rfl) X
    · refine Ev.ite_neg (by simp only [decide_eq_true_eq]; exact hb) ?_
      rw [df (no (fun h => hb h.2.1))]
      exact Ev.now _
  · refine Ev.ite_neg (by simp only [decide_eq_true_eq]; exact ha) ?_
    rw [df (no (fun h => ha h.1))]
    exact Ev.now _
theorem ref_GraphMay_ev (V : Int) (ls : List S53) : Ev (fun k => r4_GraphMay.f k V ls) (decide (GOk V ls)) := by
 have no : ¬ (2 ≤ V ∧ V ≤ 8 ∧ ls.length ≤ 16) → Ev (fun k => r4_GraphMay.j0 k true V ls) (decide (GOk V ls)) := by
  intro h
  rw [df (fun g => h ⟨g.v2, g.v8, g.m16⟩)]
  refine Ev.step (fun k => by rw [r4_GraphMay.j0]) ?_
  exact Ev.ite_pos rfl (Ev.now _)
 unfold r4_GraphMay.f
 by_cases h1 : V < 2
 · exact Ev.ite_pos h1 (no (by omega))
 · refine Ev.ite_neg h1 ?_
   by_cases h2 : V > 8
   · exact Ev.ite_pos h2 (no (by omega))
   · refine Ev.ite_neg h2 ?_
     by_cases h3 : (ls.length : Int) > 16
     · rw [dt h3]; exact no (by omega)
     · rw [df h3]
       refine Ev.step (fun k => by rw [r4_GraphMay.j0]) ?_
       refine Ev.ite_neg (by simp) ?_
       exact refmay_loop V ls (by omega) (by omega) ls.length 0 (by omega) (by omega) (fun j a b => by omega) (by simp [S])
theorem half {k : Int} (h0 : 0 ≤ k) (h1 : k < 9223372036854775807) : wrap64 (Int.tdiv k 2) = k / 2 := by
 rw [Int.tdiv_eq_ediv_of_nonneg h0, wrap_id (by omega) (by omega)]
theorem odd_ {k : Int} (h0 : 0 ≤ k) : Int.tmod k 2 = k % 2 := Int.tmod_eq_emod_of_nonneg h0
theorem arcs_Ends_eq (V : Int) (ls : List S53) (hm : ls.length ≤ 17592186044416) {k : Int} (h0 : 0 ≤ k) (h1 : k < 2 * (ls.length : Int)) :
 arcs_Ends.f V ls k = some (tail (net V ls) k, head (net V ls) k) := by
 unfold arcs_Ends.f
 rw [half h0 (by omega), odd_ h0, if_pos (by omega), if_pos (by omega)]
 unfold tail head
 by_cases h : k % 2 = 1
 · rw [if_pos h, if_pos h, if_pos h]; rfl
 · rw [if_neg h, if_neg h, if_neg h]; rfl
theorem ref_Tail_eq (V : Int) (ls : List S53) (hm : ls.length ≤ 17592186044416) {k : Int} (h0 : 0 ≤ k) (h1 : k < 2 * (ls.length : Int)) :
 r4_Tail.f V ls k = some (tail (net V ls) k) := by
 unfold r4_Tail.f
 rw [half h0 (by omega), odd_ h0]
 unfold tail
 by_cases h : k % 2 = 1
 · rw [if_neg (by omega), if_pos (by omega), if_pos (by omega), if_pos h]; rfl
 · rw [if_pos (by omega), if_pos (by omega), if_pos (by omega), if_neg h]; rfl
theorem ref_Head_eq (V : Int) (ls : List S53) (hm : ls.length ≤ 17592186044416) {k : Int} (h0 : 0 ≤ k) (h1 : k < 2 * (ls.length : Int)) :
 r4_Head.f V ls k = some (head (net V ls) k) := by
 unfold r4_Head.f
 rw [half h0 (by omega), odd_ h0]
 unfold head
 by_cases h : k % 2 = 1
 · rw [if_neg (by omega), if_pos (by omega), if_pos (by omega), if_pos h]; rfl
 · rw [if_pos (by omega), if_pos (by omega), if_pos (by omega), if_neg h]; rfl
noncomputable def rowTo (N : Net) (v : Int) (n : Nat) : List Int := (ints n).filter (fun k => decide (tail N k = v))
noncomputable def rowOf (N : Net) (v : Int) : List Int := rowTo N v (2 * N.m)
theorem rowTo_succ (N : Net) (v : Int) (n : Nat) : rowTo N v (n + 1) = if tail N (n : Int) = v then rowTo N v n ++ [(n : Int)] else rowTo N v n := by
 unfold rowTo
 rw [ints_succ, List.filter_append]
 by_cases h : tail N (n : Int) = v
 · rw [if_pos h]; simp [h]
 · rw [if_neg h]; simp [h]
theorem rowTo_len (N : Net) (v : Int) (n : Nat) : (rowTo N v n).length ≤ n := by
 unfold rowTo
 have := List.length_filter_le (fun k => decide (tail N k = v)) (ints n)
 rw [ints_len] at this
 exact this
theorem rowOf_mem {N : Net} {v k : Int} : k ∈ rowOf N v ↔ N.arc k ∧ tail N k = v := by
 unfold rowOf rowTo Net.arc
 rw [List.mem_filter, ints_mem, decide_eq_true_eq]
 constructor
 · rintro ⟨⟨a, b⟩, c⟩; exact ⟨⟨a, by omega⟩, c⟩
 · rintro ⟨⟨a, b⟩, c⟩; exact ⟨⟨a, by omega⟩, c⟩
theorem row_loop (V : Int) (ls : List S53) (hm : ls.length ≤ 4096) (v : Int) (d : Nat) : ∀ (i : Nat), i ≤ 2 * ls.length → 2 * ls.length - i = d →
 Ev (fun k => arcs_row.l0 k v (rowTo (net V ls) v i) (2 * (ls.length : Int)) (i : Int) V ls) (rowOf (net V ls) v) := by
 induction d with
 | zero =>
  intro i hi hd
  obtain rfl : i = 2 * ls.length := by omega
  refine Ev.step (fun k => by rw [arcs_row.l0]) ?_
  refine Ev.ite_neg (by omega) ?_
  exact Ev.now _
 | succ d ih =>
  intro i hi hd
  have X := ih (i + 1) (by omega) (by omega)
  have hl := rowTo_len (net V ls) v i
  refine Ev.step (fun k => by rw [arcs_row.l0]) ?_
  refine Ev.ite_pos (by omega) ?_
  refine Ev.call (arcs_Ends_eq V ls (by omega) (by omega) (by omega)) ?_
  rw [rowTo_succ] at X
  have e3 : wrap64 ((i : Int) + 1) = ((i + 1 : Nat) : Int) := wrap_succ (by omega)
  by_cases h : tail (net V ls) (i : Int) = v
  · refine Ev.ite_pos h ?_
    refine Ev.ite_pos (by omega) ?_
    rw [if_pos h] at X
    exact Ev.congr (fun k => by rw [e3]) X
  · refine Ev.ite_neg h ?_
    rw [if_neg h] at X
    exact Ev.congr (fun k => by rw [e3]) X
theorem twice_ {ls : List S53} (hm : ls.length ≤ 4096) : wrap64 (2 * (ls.length : Int)) = 2 * (ls.length : Int) := wrap_id (by omega) (by omega)
theorem arcs_row_ev (V : Int) (ls : List S53) (hm : ls.length ≤ 4096) (v : Int) : Ev (fun k => arcs_row.f k V ls v) (rowOf (net V ls) v) := by
 unfold arcs_row.f
 rw [twice_ hm]
 exact row_loop V ls hm v (2 * ls.length) 0 (by omega) (by omega)
noncomputable def rowsTo (N : Net) : Nat → List Int
 | 0 => []
 | v + 1 => rowsTo N v ++ rowOf N (v : Int)
noncomputable def startAt (N : Net) (v : Int) : Int := ((rowsTo N v.toNat).length : Int)
noncomputable def starts (N : Net) : List Int := tab (N.V + 1) (startAt N)
noncomputable def order (N : Net) : List Int := rowsTo N N.V
noncomputable def heads (N : Net) : List Int := tab (2 * N.m) (head N)
theorem rowsTo_len (N : Net) (v : Nat) : (rowsTo N v).length ≤ v * (2 * N.m) := by
 induction v with
 | zero => simp [rowsTo]
 | succ v ih =>
  simp only [rowsTo, List.length_append]
  have := rowTo_len N v (2 * N.m)
  unfold rowOf
  have e : (v + 1) * (2 * N.m) = v * (2 * N.m) + 2 * N.m := Nat.succ_mul v (2 * N.m)
  omega
theorem build_heads (V : Int) (ls : List S53) (hm : ls.length ≤ 16) {r : List Int × List Int × List Int × Int} (hr : Ev (fun k => arcs_Build.l1 k V 0 V ls [] [] (heads (net V ls))) r) (d : Nat) : ∀ (i : Nat), i ≤ 2 * ls.length → 2 * ls.length - i = d →
 Ev (fun k => arcs_Build.l0 k (2 * (ls.length : Int)) (i : Int) V ls (tab i (head (net V ls)))) r := by
 induction d with
 | zero =>
  intro i hi hd
  obtain rfl : i = 2 * ls.length := by omega
  refine Ev.step (fun k => by rw [arcs_Build.l0]) ?_
  refine Ev.ite_neg (by omega) ?_
  exact hr
 | succ d ih =>
  intro i hi hd
  have X := ih (i + 1) (by omega) (by omega)
  refine Ev.step (fun k => by rw [arcs_Build.l0]) ?_
  refine Ev.ite_pos (by omega) ?_
  refine Ev.call (arcs_Ends_eq V ls (by omega) (by omega) (by omega)) ?_
  refine Ev.ite_pos (by rw [tab_len]; omega) ?_
  rw [tab_succ] at X
  have e3 : wrap64 ((i : Int) + 1) = ((i + 1 : Nat) : Int) := wrap_succ (by omega)
  exact Ev.congr (fun k => by rw [e3]) X
theorem build_rows (V : Int) (ls : List S53) (hv : 0 ≤ V ∧ V ≤ 8) (hm : ls.length ≤ 16) (hs : List Int) (d : Nat) : ∀ (i : Nat), (i : Int) ≤ V → V.toNat - i = d →
 Ev (fun k => arcs_Build.l1 k V (i : Int) V ls (tab i (startAt (net V ls))) (rowsTo (net V ls) i) hs) (starts (net V ls), order (net V ls), hs, 0) := by
 induction d with
 | zero =>
  intro i hi hd
  have hiV : (i : Int) = V := by omega
  refine Ev.step (fun k => by rw [arcs_Build.l1]) ?_
  refine Ev.ite_neg (by omega) ?_
  refine Ev.ite_pos (by rw [tab_len]; omega) ?_
  have hV : (net V ls).V = i := by simp only [net]; omega
  have e1 : tab i (startAt (net V ls)) ++ [((rowsTo (net V ls) i).length : Int)] = starts (net V ls) := by
   unfold starts; rw [hV, tab_succ]; simp [startAt]
  have e2 : rowsTo (net V ls) i = order (net V ls) := by unfold order; rw [hV]
  rw [e1, e2]
  exact Ev.now _
 | succ d ih =>
  intro i hi hd
  have X := ih (i + 1) (by omega) (by omega)
  have hl := rowsTo_len (net V ls) i
  have hl2 := rowTo_len (net V ls) i (2 * (net V ls).m)
  have hl3 : i * (2 * (net V ls).m) ≤ 8 * 32 := Nat.mul_le_mul (by omega) (by rw [net_m]; omega)
  have hl4 : (net V ls).m ≤ 16 := by rw [net_m]; exact hm
  refine Ev.step (fun k => by rw [arcs_Build.l1]) ?_
  refine Ev.ite_pos (by omega) ?_
  refine Ev.ite_pos (by rw [tab_len]; omega) ?_
  refine Ev.bind (arcs_row_ev V ls (by omega) (i : Int)) ?_
  refine Ev.ite_pos (by unfold rowOf; omega) ?_
  rw [tab_succ] at X
  have e3 : wrap64 ((i : Int) + 1) = ((i + 1 : Nat) : Int) := wrap_succ (by omega)
  have e4 : startAt (net V ls) (i : Int) = ((rowsTo (net V ls) i).length : Int) := by simp [startAt]
  rw [e4] at X
  exact Ev.congr (fun k => by rw [e3]; rfl) X
theorem arcs_Build_ev (V : Int) (ls : List S53) : Ev (fun k => arcs_Build.f k V ls) (if GOk V ls then (starts (net V ls), order (net V ls), heads (net V ls), 0) else ([], [], [], 500)) := by
 unfold arcs_Build.f
 refine Ev.bind (graph_May_ev V ls) ?_
 by_cases h : GOk V ls
 · refine Ev.ite_pos (dt h) ?_
   rw [if_pos h, twice_ (by have := h.m16; omega)]
   refine build_heads V ls h.m16 ?_ (2 * ls.length) 0 (by omega) (by omega)
   exact build_rows V ls ⟨by have := h.v2; omega, h.v8⟩ h.m16 _ V.toNat 0 (by have := h.v2; omega) (by omega)
 · refine Ev.ite_neg (by simp only [decide_eq_true_eq]; exact h) ?_
   rw [if_neg h]
   exact Ev.now _
theorem rowsTo_prefix (N : Net) {v w : Nat} (h : v ≤ w) : ∃ t, rowsTo N w = rowsTo N v ++ t := by
 induction w with
 | zero => obtain rfl : v = 0 := by omega
           exact ⟨[], by simp⟩
 | succ w ih =>
  by_cases e : v = w + 1
  · subst e; exact ⟨[], by simp⟩
  · obtain ⟨t, ht⟩ := ih (by omega)
    exact ⟨t ++ rowOf N (w : Int), by simp only [rowsTo]; rw [ht, List.append_assoc]⟩
theorem starts_len (N : Net) : (starts N).length = N.V + 1 := tab_len _ _
theorem rd_starts (N : Net) {v : Int} (h0 : 0 ≤ v) (h1 : v ≤ (N.V : Int)) : rd (starts N) v = startAt N v := rd_tab h0 (by omega)
theorem heads_len (N : Net) : (heads N).length = 2 * N.m := tab_len _ _
theorem rd_heads (N : Net) {k : Int} (h0 : 0 ≤ k) (h1 : k < 2 * (N.m : Int)) : rd (heads N) k = head N k := rd_tab h0 (by omega)
theorem order_row (N : Net) {v : Int} (h0 : 0 ≤ v) (h1 : v < (N.V : Int)) :
 startAt N v ≤ startAt N (v + 1) ∧ startAt N (v + 1) ≤ ((order N).length : Int) ∧ 0 ≤ startAt N v ∧ ((order N).take (startAt N (v + 1)).toNat).drop (startAt N v).toNat = rowOf N v ∧ startAt N (v + 1) = startAt N v + ((rowOf N v).length : Int) := by
 obtain ⟨t, ht⟩ := rowsTo_prefix N (v := v.toNat + 1) (w := N.V) (by omega)
 have e1 : (v + 1).toNat = v.toNat + 1 := by omega
 have e2 : rowsTo N (v.toNat + 1) = rowsTo N v.toNat ++ rowOf N v := by
  simp only [rowsTo]; rw [show ((v.toNat : Nat) : Int) = v by omega]
 unfold order startAt
 rw [ht, e1, e2]
 simp only [List.length_append, Int.toNat_natCast]
 refine ⟨by omega, by omega, by omega, ?_, by omega⟩
 rw [List.take_append_of_le_length (by simp), List.take_of_length_le (by simp), List.drop_append_of_le_length (Nat.le_refl _), List.drop_length, List.nil_append]
structure CapsOk (V : Int) (ls : List S53) (caps : List Int) : Prop where
 g : GOk V ls
 len : caps.length = ls.length
 le : ∀ i : Int, 0 ≤ i → i < (caps.length : Int) → 0 ≤ rd caps i ∧ rd caps i ≤ lC ls i
structure Win (caps f : List Int) : Prop where
 len : f.length = caps.length
 le : ∀ i : Int, 0 ≤ i → i < (f.length : Int) → 0 ≤ rd f i ∧ rd f i ≤ rd caps i
theorem takes_loop (V : Int) (ls : List S53) (caps : List Int) (hg : GOk V ls) (hl : caps.length = ls.length) (d : Nat) : ∀ (i : Nat), i ≤ caps.length → caps.length - i = d → (∀ j : Int, 0 ≤ j → j < (i : Int) → 0 ≤ rd caps j ∧ rd caps j ≤ lC ls j) →
 Ev (fun k => graph_Takes.l0 k caps (caps.length : Int) (i : Int) V ls) (decide (CapsOk V ls caps)) := by
 induction d with
 | zero =>
  intro i hi hd hp
  obtain rfl : i = caps.length := by omega
  refine Ev.step (fun k => by rw [graph_Takes.l0]) ?_
  refine Ev.ite_neg (by omega) ?_
  rw [dt (⟨hg, hl, hp⟩ : CapsOk V ls caps)]
  exact Ev.now _
 | succ d ih =>
  intro i hi hd hp
  have hm := hg.m16
  refine Ev.step (fun k => by rw [graph_Takes.l0]) ?_
  refine Ev.ite_pos (by omega) ?_
  refine Ev.ite_pos (by omega) ?_
  refine Ev.ite_pos (by omega) ?_
  by_cases h1 : rd caps i < 0
  · refine Ev.ite_pos h1 ?_
    rw [df (fun h : CapsOk V ls caps => by have := h.le i (by omega) (by omega); omega)]
    exact Ev.now _
  · refine Ev.ite_neg h1 ?_
    refine Ev.ite_pos (by omega) ?_
    by_cases h2 : rd caps i > lC ls i
    · refine Ev.ite_pos h2 ?_
      rw [df (fun h : CapsOk V ls caps => by have := h.le i (by omega) (by omega); omega)]
      exact Ev.now _
    · refine Ev.ite_neg h2 ?_
      have X := ih (i + 1) (by omega) (by omega) (fun j a b => by
       by_cases e : j = i
       · subst e; omega
       · exact hp j a (by omega))
      have e3 : wrap64 ((i : Int) + 1) = ((i + 1 : Nat) : Int) := wrap_succ (by omega)
      exact Ev.congr (fun k => by rw [e3]) X
theorem graph_Takes_ev (V : Int) (ls : List S53) (caps : List Int) : Ev (fun k => graph_Takes.f k V ls caps) (decide (CapsOk V ls caps)) := by
 have no : ¬ CapsOk V ls caps → Ev (fun k => graph_Takes.j0 k caps true V ls) (decide (CapsOk V ls caps)) := by
  intro h
  rw [df h]
  refine Ev.step (fun k => by rw [graph_Takes.j0]) ?_
  exact Ev.ite_pos rfl (Ev.now _)
 unfold graph_Takes.f
 refine Ev.bind (graph_May_ev V ls) ?_
 by_cases h : GOk V ls
 · refine Ev.ite_pos (dt h) ?_
   by_cases hl : caps.length = ls.length
   · have e : ((caps.length : Int) != (ls.length : Int)) = false := by simp [hl]
     rw [e]
     refine Ev.step (fun k => by rw [graph_Takes.j0]) ?_
     refine Ev.ite_neg (by simp) ?_
     exact takes_loop V ls caps h hl caps.length 0 (by omega) (by omega) (fun j a b => by omega)
   · have e : ((caps.length : Int) != (ls.length : Int)) = true := by simp; omega
     rw [e]
     exact no (fun g => hl g.len)
 · refine Ev.ite_neg (by simp only [decide_eq_true_eq]; exact h) ?_
   exact no (fun g => h g.g)
theorem capsmay_loop (V : Int) (ls : List S53) (caps : List Int) (hg : GOk V ls) (hl : caps.length = ls.length) (d : Nat) : ∀ (i : Nat), i ≤ caps.length → caps.length - i = d → (∀ j : Int, 0 ≤ j → j < (i : Int) → 0 ≤ rd caps j ∧ rd caps j ≤ lC ls j) →
 Ev (fun k => r4_CapsMay.l0 k caps (i : Int) V ls) (decide (CapsOk V ls caps)) := by
 induction d with
 | zero =>
  intro i hi hd hp
  obtain rfl : i = caps.length := by omega
  refine Ev.step (fun k => by rw [r4_CapsMay.l0]) ?_
  refine Ev.ite_neg (by omega) ?_
  rw [dt (⟨hg, hl, hp⟩ : CapsOk V ls caps)]
  exact Ev.now _
 | succ d ih =>
  intro i hi hd hp
  have hm := hg.m16
  refine Ev.step (fun k => by rw [r4_CapsMay.l0]) ?_
  refine Ev.ite_pos (by omega) ?_
  refine Ev.ite_pos (by omega) ?_
  by_cases h1 : rd caps i < 0
  · refine Ev.ite_pos h1 ?_
    rw [df (fun h : CapsOk V ls caps => by have := h.le i (by omega) (by omega); omega)]
    exact Ev.now _
  · refine Ev.ite_neg h1 ?_
    refine Ev.ite_pos (by omega) ?_
    by_cases h2 : rd caps i > lC ls i
    · refine Ev.ite_pos h2 ?_
      rw [df (fun h : CapsOk V ls caps => by have := h.le i (by omega) (by omega); omega)]
      exact Ev.now _
    · refine Ev.ite_neg h2 ?_
      have X := ih (i + 1) (by omega) (by omega) (fun j a b => by
       by_cases e : j = i
       · subst e; omega
       · exact hp j a (by omega))
      have e3 : wrap64 ((i : Int) + 1) = ((i + 1 : Nat) : Int) := wrap_succ (by omega)
      exact Ev.congr (fun k => by rw [e3]) X
theorem ref_CapsMay_ev (V : Int) (ls : List S53) (caps : List Int) : Ev (fun k => r4_CapsMay.f k V ls caps) (decide (CapsOk V ls caps)) := by
 have no : ¬ CapsOk V ls caps → Ev (fun k => r4_CapsMay.j0 k caps true V ls) (decide (CapsOk V ls caps)) := by
  intro h
  rw [df h]
  refine Ev.step (fun k => by rw [r4_CapsMay.j0]) ?_
  exact Ev.ite_pos rfl (Ev.now _)
 unfold r4_CapsMay.f
 refine Ev.bind (ref_GraphMay_ev V ls) ?_
 by_cases h : GOk V ls
 · refine Ev.ite_pos (dt h) ?_
   by_cases hl : caps.length = ls.length
   · have e : ((caps.length : Int) != (ls.length : Int)) = false := by simp [hl]
     rw [e]
     refine Ev.step (fun k => by rw [r4_CapsMay.j0]) ?_
     refine Ev.ite_neg (by simp) ?_
     exact capsmay_loop V ls caps h hl caps.length 0 (by omega) (by omega) (fun j a b => by omega)
   · have e : ((caps.length : Int) != (ls.length : Int)) = true := by simp; omega
     rw [e]
     exact no (fun g => hl g.len)
 · refine Ev.ite_neg (by simp only [decide_eq_true_eq]; exact h) ?_
   exact no (fun g => h g.g)
theorem within_loop (caps f : List Int) (hl : f.length = caps.length) (hx : f.length ≤ 17592186044416) (d : Nat) : ∀ (i : Nat), i ≤ f.length → f.length - i = d → (∀ j : Int, 0 ≤ j → j < (i : Int) → 0 ≤ rd f j ∧ rd f j ≤ rd caps j) →
 Ev (fun k => r4_Within.l0 k caps f (i : Int)) (decide (Win caps f)) := by
 induction d with
 | zero =>
  intro i hi hd hp
  obtain rfl : i = f.length := by omega
  refine Ev.step (fun k => by rw [r4_Within.l0]) ?_
  refine Ev.ite_neg (by omega) ?_
  rw [dt (⟨hl, hp⟩ : Win caps f)]
  exact Ev.now _
 | succ d ih =>
  intro i hi hd hp
  refine Ev.step (fun k => by rw [r4_Within.l0]) ?_
  refine Ev.ite_pos (by omega) ?_
  refine Ev.ite_pos (by omega) ?_
  by_cases h1 : rd f i < 0
  · refine Ev.ite_pos h1 ?_
    rw [df (fun h : Win caps f => by have := h.le i (by omega) (by omega); omega)]
    exact Ev.now _
  · refine Ev.ite_neg h1 ?_
    refine Ev.ite_pos (by omega) ?_
    by_cases h2 : rd f i > rd caps i
    · refine Ev.ite_pos h2 ?_
      rw [df (fun h : Win caps f => by have := h.le i (by omega) (by omega); omega)]
      exact Ev.now _
    · refine Ev.ite_neg h2 ?_
      have X := ih (i + 1) (by omega) (by omega) (fun j a b => by
       by_cases e : j = i
       · subst e; omega
       · exact hp j a (by omega))
      have e3 : wrap64 ((i : Int) + 1) = ((i + 1 : Nat) : Int) := wrap_succ (by omega)
      exact Ev.congr (fun k => by rw [e3]) X
theorem ref_Within_ev (caps f : List Int) (hx : f.length ≤ 17592186044416) : Ev (fun k => r4_Within.f k caps f) (decide (Win caps f)) := by
 unfold r4_Within.f
 by_cases hl : f.length = caps.length
 · refine Ev.ite_pos (by omega) ?_
   exact within_loop caps f hl hx f.length 0 (by omega) (by omega) (fun j a b => by omega)
 · refine Ev.ite_neg (by omega) ?_
   rw [df (fun h : Win caps f => hl h.len)]
   exact Ev.now _
theorem lies_loop (caps f : List Int) (hl : f.length = caps.length) (hx : f.length ≤ 17592186044416) (d : Nat) : ∀ (i : Nat), i ≤ f.length → f.length - i = d → (∀ j : Int, 0 ≤ j → j < (i : Int) → 0 ≤ rd f j ∧ rd f j ≤ rd caps j) →
 Ev (fun k => stream_Lies.l0 k caps f (f.length : Int) (i : Int)) (decide (Win caps f)) := by
 induction d with
 | zero =>
  intro i hi hd hp
  obtain rfl : i = f.length := by omega
  refine Ev.step (fun k => by rw [stream_Lies.l0]) ?_
  refine Ev.ite_neg (by omega) ?_
  rw [dt (⟨hl, hp⟩ : Win caps f)]
  exact Ev.now _
 | succ d ih =>
  intro i hi hd hp
  refine Ev.step (fun k => by rw [stream_Lies.l0]) ?_
  refine Ev.ite_pos (by omega) ?_
  refine Ev.ite_pos (by omega) ?_
  refine Ev.ite_pos (by omega) ?_
  by_cases h1 : rd f i < 0
  · refine Ev.ite_pos h1 ?_
    rw [df (fun h : Win caps f => by have := h.le i (by omega) (by omega); omega)]
    exact Ev.now _
  · refine Ev.ite_neg h1 ?_
    refine Ev.ite_pos (by omega) ?_
    by_cases h2 : rd f i > rd caps i
    · refine Ev.ite_pos h2 ?_
      rw [df (fun h : Win caps f => by have := h.le i (by omega) (by omega); omega)]
      exact Ev.now _
    · refine Ev.ite_neg h2 ?_
      have X := ih (i + 1) (by omega) (by omega) (fun j a b => by
       by_cases e : j = i
       · subst e; omega
       · exact hp j a (by omega))
      have e3 : wrap64 ((i : Int) + 1) = ((i + 1 : Nat) : Int) := wrap_succ (by omega)
      exact Ev.congr (fun k => by rw [e3]) X
theorem stream_Lies_ev (V : Int) (ls : List S53) (caps f : List Int) : Ev (fun k => stream_Lies.f k V ls caps f) (decide (CapsOk V ls caps ∧ Win caps f)) := by
 have no : ¬ (CapsOk V ls caps ∧ Win caps f) → Ev (fun k => stream_Lies.j0 k caps f true) (decide (CapsOk V ls caps ∧ Win caps f)) := by
  intro h
  rw [df h]
  refine Ev.step (fun k => by rw [stream_Lies.j0]) ?_
  exact Ev.ite_pos rfl (Ev.now _)
 unfold stream_Lies.f
 refine Ev.bind (graph_Takes_ev V ls caps) ?_
 by_cases h : CapsOk V ls caps
 · refine Ev.ite_pos (dt h) ?_
   by_cases hl : f.length = caps.length
   · have e : ((f.length : Int) != (caps.length : Int)) = false := by simp [hl]
     rw [e]
     refine Ev.step (fun k => by rw [stream_Lies.j0]) ?_
     refine Ev.ite_neg (by simp) ?_
     have e2 : (CapsOk V ls caps ∧ Win caps f) = Win caps f := by simp [h]
     simp only [e2]
     exact lies_loop caps f hl (by have := h.g.m16; have := h.len; omega) f.length 0 (by omega) (by omega) (fun j a b => by omega)
   · have e : ((f.length : Int) != (caps.length : Int)) = true := by simp; omega
     rw [e]
     exact no (fun g => hl g.2.len)
 · refine Ev.ite_neg (by simp only [decide_eq_true_eq]; exact h) ?_
   exact no (fun g => h g.1)
def gainTo (N : Net) (f : Int → Int) (v : Int) (n : Nat) : Int := S n (fun i => (if N.a i = v then f i else 0) - (if N.b i = v then f i else 0))
theorem S_abs {n : Nat} {f g : Int → Int} (h : ∀ i : Int, 0 ≤ i → i < (n : Int) → -(g i) ≤ f i ∧ f i ≤ g i) : -(S n g) ≤ S n f ∧ S n f ≤ S n g := by
 induction n with
 | zero => simp [S]
 | succ n ih =>
  have h1 := ih (fun i a b => h i a (by omega))
  have h2 := h n (by omega) (by omega)
  simp only [S]
  omega
structure Fine (V : Int) (ls : List S53) (f : List Int) : Prop where
 g : GOk V ls
 len : f.length = ls.length
 le : ∀ i : Int, 0 ≤ i → i < (ls.length : Int) → 0 ≤ rd f i ∧ rd f i ≤ lC ls i
theorem Fine.of {V : Int} {ls : List S53} {caps f : List Int} (h : CapsOk V ls caps) (w : Win caps f) : Fine V ls f :=
 ⟨h.g, by rw [w.len, h.len], fun i a b => by
  have h1 := w.le i a (by rw [w.len, h.len]; exact b)
  have h2 := h.le i a (by rw [h.len]; exact b)
  omega⟩
theorem Fine.sum_le {V : Int} {ls : List S53} {f : List Int} (h : Fine V ls f) {n : Nat} (hn : n ≤ ls.length) : 0 ≤ S n (rd f) ∧ S n (rd f) ≤ 4611686018427387904 := by
 have h1 : S n (rd f) ≤ S ls.length (rd f) := S_prefix (fun i a b => (h.le i a b).1) hn
 have h2 : S ls.length (rd f) ≤ S ls.length (lC ls) := S_le (fun i a b => (h.le i a b).2)
 have h3 := h.g.sum
 have h4 : 0 ≤ S n (rd f) := S_nonneg (fun i a b => (h.le i a (by omega)).1)
 omega
theorem Fine.gain_bound {V : Int} {ls : List S53} {f : List Int} (h : Fine V ls f) (v : Int) {n : Nat} (hn : n ≤ ls.length) :
 -4611686018427387904 ≤ gainTo (net V ls) (rd f) v n ∧ gainTo (net V ls) (rd f) v n ≤ 4611686018427387904 := by
 have h1 := h.sum_le hn
 have h2 := S_abs (n := n) (f := fun i => (if (net V ls).a i = v then rd f i else 0) - (if (net V ls).b i = v then rd f i else 0)) (g := rd f) (fun i a b => by
  have h3 := h.le i a (by omega)
  have h4 := h.g.end_ (i := i) a (by omega)
  have h5 : ¬ ((net V ls).a i = v ∧ (net V ls).b i = v) := fun e => h4.2.2 (e.1.trans e.2.symm)
  by_cases ea : (net V ls).a i = v
  · have eb : ¬ (net V ls).b i = v := fun e => h5 ⟨ea, e⟩
    rw [if_pos ea, if_neg eb]; omega
  · rw [if_neg ea]
    by_cases eb : (net V ls).b i = v
    · rw [if_pos eb]; omega
    · rw [if_neg eb]; omega)
 unfold gainTo
 omega
theorem gains_loop (V : Int) (ls : List S53) (f : List Int) (h : Fine V ls f) (d : Nat) : ∀ (i : Nat), i ≤ ls.length → ls.length - i = d →
 Ev (fun k => stream_gains.l0 k f (tab V.toNat (fun v => gainTo (net V ls) (rd f) v i)) ls (ls.length : Int) (i : Int)) (tab V.toNat (gain (net V ls) (rd f))) := by
 induction d with
 | zero =>
  intro i hi hd
  obtain rfl : i = ls.length := by omega
  refine Ev.step (fun k => by rw [stream_gains.l0]) ?_
  refine Ev.ite_neg (by omega) ?_
  exact Ev.now _
 | succ d ih =>
  intro i hi hd
  have X := ih (i + 1) (by omega) (by omega)
  have hv := h.g.v8
  have hm := h.g.m16
  obtain ⟨⟨a0, a1⟩, ⟨b0, b1⟩, hab⟩ := h.g.end_ (i := (i : Int)) (by omega) (by omega)
  have hl : (tab V.toNat (fun v => gainTo (net V ls) (rd f) v i)).length = V.toNat := tab_len _ _
  refine Ev.step (fun k => by rw [stream_gains.l0]) ?_
  refine Ev.ite_pos (by omega) ?_
  refine Ev.ite_pos (by omega) ?_
  refine Ev.ite_pos (by omega) ?_
  refine Ev.ite_pos a0 ?_
  refine Ev.ite_pos (by show lA ls i < _; rw [hl]; omega) ?_
  refine Ev.ite_pos (by have := h.len; omega) ?_
  refine Ev.call rfl ?_
  refine Ev.ite_pos b0 ?_
  refine Ev.ite_pos (by show lB ls i < _; rw [hl]; omega) ?_
  have key : ((tab V.toNat (fun v => gainTo (net V ls) (rd f) v i)).set (lA ls i).toNat (wrap64 (rd (tab V.toNat (fun v => gainTo (net V ls) (rd f) v i)) (lA ls i) + rd f i))).set (lB ls i).toNat
   (wrap64 (rd ((tab V.toNat (fun v => gainTo (net V ls) (rd f) v i)).set (lA ls i).toNat (wrap64 (rd (tab V.toNat (fun v => gainTo (net V ls) (rd f) v i)) (lA ls i) + rd f i))) (lB ls i) - rd f i))
   = tab V.toNat (fun v => gainTo (net V ls) (rd f) v (i + 1)) := by
   refine eq_tab (by rw [List.length_set, List.length_set, hl]) (fun v v0 v1 => ?_)
   have g1 := h.gain_bound v (n := i + 1) (by omega)
   have hf := h.le (i : Int) (by omega) (by omega)
   have e0 : gainTo (net V ls) (rd f) v (i + 1) = gainTo (net V ls) (rd f) v i + ((if lA ls i = v then rd f i else 0) - (if lB ls i = v then rd f i else 0)) := rfl
   rw [rd_set b0 (by rw [List.length_set, hl]; omega) v0]
   by_cases eb : v = lB ls i
   · subst eb
     rw [if_pos rfl, rd_set a0 (by rw [hl]; omega) b0, if_neg (fun e => hab e.symm), rd_tab b0 v1, e0, if_neg hab, if_pos rfl]
     rw [e0, if_neg hab, if_pos rfl] at g1
     rw [wrap_id (by omega) (by omega)]
     omega
   · rw [if_neg eb, rd_set a0 (by rw [hl]; omega) v0]
     by_cases ea : v = lA ls i
     · subst ea
       rw [if_pos rfl, rd_tab a0 v1, e0, if_pos rfl, if_neg (fun e => hab e.symm)]
       rw [e0, if_pos rfl, if_neg (fun e => hab e.symm)] at g1
       rw [wrap_id (by omega) (by omega)]
       omega
     · rw [if_neg ea, rd_tab v0 v1, e0, if_neg (fun e => ea e.symm), if_neg (fun e => eb e.symm)]
       omega
  have e3 : wrap64 ((i : Int) + 1) = ((i + 1 : Nat) : Int) := wrap_succ (by omega)
  rw [← key] at X
  exact Ev.congr (fun k => by rw [e3]; rfl) X
theorem stream_gains_ev (V : Int) (ls : List S53) (f : List Int) (h : Fine V ls f) : Ev (fun k => stream_gains.f k V ls f) (tab V.toNat (gain (net V ls) (rd f))) := by
 have hv := h.g.v8
 have hv2 := h.g.v2
 unfold stream_gains.f
 refine Ev.ite_pos (by omega) ?_
 refine Ev.ite_pos (by omega) ?_
 have X := gains_loop V ls f h ls.length 0 (by omega) (by omega)
 have e : tab V.toNat (fun v => gainTo (net V ls) (rd f) v 0) = List.replicate V.toNat 0 :=
  (eq_tab (by simp) (fun i a b => by rw [rd_rep a b]; rfl)).symm
 rw [e] at X
 exact X
theorem ref_gain_loop (V : Int) (ls : List S53) (f : List Int) (h : Fine V ls f) (v : Int) (d : Nat) : ∀ (i : Nat), i ≤ ls.length → ls.length - i = d →
 Ev (fun k => r4_Gain.l0 k f v (gainTo (net V ls) (rd f) v i) (i : Int) V ls) (gain (net V ls) (rd f) v) := by
 induction d with
 | zero =>
  intro i hi hd
  obtain rfl : i = ls.length := by omega
  refine Ev.step (fun k => by rw [r4_Gain.l0]) ?_
  refine Ev.ite_neg (by omega) ?_
  exact Ev.now _
 | succ d ih =>
  intro i hi hd
  have X := ih (i + 1) (by omega) (by omega)
  have hm := h.g.m16
  obtain ⟨⟨a0, a1⟩, ⟨b0, b1⟩, hab⟩ := h.g.end_ (i := (i : Int)) (by omega) (by omega)
  have hf := h.le (i : Int) (by omega) (by omega)
  have hlen := h.len
  have g1 := h.gain_bound v (n := i + 1) (by omega)
  have g0 := h.gain_bound v (n := i) (by omega)
  have e0 : gainTo (net V ls) (rd f) v (i + 1) = gainTo (net V ls) (rd f) v i + ((if lA ls i = v then rd f i else 0) - (if lB ls i = v then rd f i else 0)) := rfl
  refine Ev.step (fun k => by rw [r4_Gain.l0]) ?_
  refine Ev.ite_pos (by omega) ?_
  refine Ev.ite_pos (by omega) ?_
  by_cases ea : lA ls i = v
  · refine Ev.ite_pos ea ?_
    refine Ev.ite_pos (by omega) ?_
    have nb : ¬ lB ls i = v := fun e => hab (ea.trans e.symm)
    refine Ev.ite_neg nb ?_
    rw [e0, if_pos ea, if_neg nb] at g1 X
    have e1 : wrap64 (gainTo (net V ls) (rd f) v i + rd f i) = gainTo (net V ls) (rd f) v i + (rd f i - 0) := by rw [wrap_id (by omega) (by omega)]; omega
    have e3 : wrap64 ((i : Int) + 1) = ((i + 1 : Nat) : Int) := wrap_succ (by omega)
    exact Ev.congr (fun k => by rw [e1, e3]) X
  · refine Ev.ite_neg ea ?_
    by_cases eb : lB ls i = v
    · refine Ev.ite_pos eb ?_
      refine Ev.ite_pos (by omega) ?_
      rw [e0, if_neg ea, if_pos eb] at g1 X
      have e1 : wrap64 (gainTo (net V ls) (rd f) v i - rd f i) = gainTo (net V ls) (rd f) v i + (0 - rd f i) := by rw [wrap_id (by omega) (by omega)]; omega
      have e3 : wrap64 ((i : Int) + 1) = ((i + 1 : Nat) : Int) := wrap_succ (by omega)
      exact Ev.congr (fun k => by rw [e1, e3]) X
    · refine Ev.ite_neg eb ?_
      rw [e0, if_neg ea, if_neg eb] at X
      have e1 : gainTo (net V ls) (rd f) v i + (0 - 0) = gainTo (net V ls) (rd f) v i := by omega
      rw [e1] at X
      have e3 : wrap64 ((i : Int) + 1) = ((i + 1 : Nat) : Int) := wrap_succ (by omega)
      exact Ev.congr (fun k => by rw [e3]) X
theorem ref_Gain_ev (V : Int) (ls : List S53) (f : List Int) (h : Fine V ls f) (v : Int) : Ev (fun k => r4_Gain.f k V ls f v) (gain (net V ls) (rd f) v) :=
 ref_gain_loop V ls f h v ls.length 0 (by omega) (by omega)
structure FlowOk (V : Int) (ls : List S53) (caps f : List Int) (s t : Int) : Prop where
 c : CapsOk V ls caps
 w : Win caps f
 vs : 0 ≤ s ∧ s < V
 vt : 0 ≤ t ∧ t < V
 ne : s ≠ t
 pos : 0 ≤ gain (net V ls) (rd f) s
 keep : ∀ v : Int, 0 ≤ v → v < V → v ≠ s → v ≠ t → gain (net V ls) (rd f) v = 0
theorem FlowOk.flow {V : Int} {ls : List S53} {caps f : List Int} {s t : Int} (h : FlowOk V ls caps f s t) : Flow (net V ls) (rd caps) (rd f) s t := by
 have e := net_V (V := V) (ls := ls) (by have := h.c.g.v2; omega)
 refine ⟨fun i a b => ?_, ?_, ?_, h.ne, h.pos, fun v a b c => ?_⟩
 · exact h.w.le i a (by rw [h.w.len, h.c.len]; exact b)
 · unfold Net.vert; rw [e]; exact h.vs
 · unfold Net.vert; rw [e]; exact h.vt
 · unfold Net.vert at a; rw [e] at a; exact h.keep v a.1 a.2 b c
theorem flow_loop (V : Int) (ls : List S53) (caps f : List Int) (s t : Int) (hf : CapsOk V ls caps) (hw : Win caps f) (hs : 0 ≤ s ∧ s < V) (ht : 0 ≤ t ∧ t < V) (ne : s ≠ t) (d : Nat) : ∀ (i : Nat), (i : Int) ≤ V → V.toNat - i = d →
 (∀ v : Int, 0 ≤ v → v < (i : Int) → (v = s → 0 ≤ gain (net V ls) (rd f) s) ∧ (v ≠ s → v ≠ t → gain (net V ls) (rd f) v = 0)) →
 Ev (fun k => stream_May.l0 k s t (tab V.toNat (gain (net V ls) (rd f))) ((tab V.toNat (gain (net V ls) (rd f))).length : Int) (i : Int)) (decide (FlowOk V ls caps f s t)) := by
 have hl : (tab V.toNat (gain (net V ls) (rd f))).length = V.toNat := tab_len _ _
 have hv := hf.g.v8
 induction d with
 | zero =>
  intro i hi hd hp
  refine Ev.step (fun k => by rw [stream_May.l0]) ?_
  refine Ev.ite_neg (by omega) ?_
  rw [dt (⟨hf, hw, hs, ht, ne, (hp s hs.1 (by omega)).1 rfl, fun v a b c d => (hp v a (by omega)).2 c d⟩ : FlowOk V ls caps f s t)]
  exact Ev.now _
 | succ d ih =>
  intro i hi hd hp
  have X := ih (i + 1) (by omega) (by omega)
  refine Ev.step (fun k => by rw [stream_May.l0]) ?_
  refine Ev.ite_pos (by omega) ?_
  refine Ev.ite_pos (by omega) ?_
  refine Ev.ite_pos (by omega) ?_
  have er : rd (tab V.toNat (gain (net V ls) (rd f))) (i : Int) = gain (net V ls) (rd f) i := rd_tab (by omega) (by omega)
  rw [er]
  by_cases es : (i : Int) = s
  · refine Ev.ite_pos es ?_
    by_cases hg : gain (net V ls) (rd f) i < 0
    · refine Ev.ite_pos hg ?_
      rw [df (fun h : FlowOk V ls caps f s t => by have := h.pos; rw [es] at hg; omega)]
      exact Ev.now _
    · refine Ev.ite_neg hg ?_
      have Y := X (fun v a b => by
       by_cases e : v = i
       · subst e; exact ⟨fun _ => by rw [← es]; omega, fun c => absurd es c⟩
       · exact hp v a (by omega))
      have e3 : wrap64 ((i : Int) + 1) = ((i + 1 : Nat) : Int) := wrap_succ (by omega)
      exact Ev.congr (fun k => by rw [e3]) Y
  · refine Ev.ite_neg es ?_
    by_cases et : (i : Int) = t
    · refine Ev.ite_pos et ?_
      have Y := X (fun v a b => by
       by_cases e : v = i
       · subst e; exact ⟨fun c => absurd c es, fun _ c => absurd et c⟩
       · exact hp v a (by omega))
      have e3 : wrap64 ((i : Int) + 1) = ((i + 1 : Nat) : Int) := wrap_succ (by omega)
      exact Ev.congr (fun k => by rw [e3]) Y
    · refine Ev.ite_neg et ?_
      by_cases hg : gain (net V ls) (rd f) i = 0
      · refine Ev.ite_pos hg ?_
        have Y := X (fun v a b => by
         by_cases e : v = i
         · subst e; exact ⟨fun c => absurd c es, fun _ _ => hg⟩
         · exact hp v a (by omega))
        have e3 : wrap64 ((i : Int) + 1) = ((i + 1 : Nat) : Int) := wrap_succ (by omega)
        exact Ev.congr (fun k => by rw [e3]) Y
      · refine Ev.ite_neg hg ?_
        rw [df (fun h : FlowOk V ls caps f s t => hg (h.keep i (by omega) (by omega) es et))]
        exact Ev.now _
theorem stream_May_ev (V : Int) (ls : List S53) (caps f : List Int) (s t : Int) : Ev (fun k => stream_May.f k V ls caps f s t) (decide (FlowOk V ls caps f s t)) := by
 have no : ¬ FlowOk V ls caps f s t → Ev (fun k => stream_May.j0 k f s t true V ls) (decide (FlowOk V ls caps f s t)) := by
  intro h
  rw [df h]
  refine Ev.step (fun k => by rw [stream_May.j0]) ?_
  exact Ev.ite_pos rfl (Ev.now _)
 unfold stream_May.f
 refine Ev.bind (stream_Lies_ev V ls caps f) ?_
 by_cases h : CapsOk V ls caps ∧ Win caps f
 · refine Ev.ite_pos (dt h) ?_
   refine Ev.call (graph_Has_eq _ _ _) ?_
   by_cases hs : 0 ≤ s ∧ s < V
   · refine Ev.ite_pos (dt hs) ?_
     refine Ev.call (graph_Has_eq _ _ _) ?_
     by_cases ht : 0 ≤ t ∧ t < V
     · refine Ev.ite_pos (dt ht) ?_
       by_cases ne : s = t
       · have e : (s == t) = true := by simp [ne]
         rw [e]
         exact no (fun g => g.ne ne)
       · have e : (s == t) = false := by simp [ne]
         rw [e]
         refine Ev.step (fun k => by rw [stream_May.j0]) ?_
         refine Ev.ite_neg (by simp) ?_
         refine Ev.bind (stream_gains_ev V ls f (Fine.of h.1 h.2)) ?_
         exact flow_loop V ls caps f s t h.1 h.2 hs ht ne V.toNat 0 (by omega) (by omega) (fun v a b => by omega)
     · refine Ev.ite_neg (by simp only [decide_eq_true_eq]; exact ht) ?_
       exact no (fun g => ht g.vt)
   · refine Ev.ite_neg (by simp only [decide_eq_true_eq]; exact hs) ?_
     exact no (fun g => hs g.vs)
 · refine Ev.ite_neg (by simp only [decide_eq_true_eq]; exact h) ?_
   exact no (fun g => h ⟨g.c, g.w⟩)
theorem refflow_loop (V : Int) (ls : List S53) (caps f : List Int) (s t : Int) (hf : CapsOk V ls caps) (hw : Win caps f) (hs : 0 ≤ s ∧ s < V) (ht : 0 ≤ t ∧ t < V) (ne : s ≠ t) (hpos : 0 ≤ gain (net V ls) (rd f) s) (d : Nat) : ∀ (i : Nat), (i : Int) ≤ V → V.toNat - i = d →
 (∀ v : Int, 0 ≤ v → v < (i : Int) → v ≠ s → v ≠ t → gain (net V ls) (rd f) v = 0) →
 Ev (fun k => r4_FlowMay.l0 k f s t (i : Int) V ls) (decide (FlowOk V ls caps f s t)) := by
 have hv := hf.g.v8
 induction d with
 | zero =>
  intro i hi hd hp
  refine Ev.step (fun k => by rw [r4_FlowMay.l0]) ?_
  refine Ev.ite_neg (by omega) ?_
  rw [dt (⟨hf, hw, hs, ht, ne, hpos, fun v a b c d => hp v a (by omega) c d⟩ : FlowOk V ls caps f s t)]
  exact Ev.now _
 | succ d ih =>
  intro i hi hd hp
  have X := ih (i + 1) (by omega) (by omega)
  refine Ev.step (fun k => by rw [r4_FlowMay.l0]) ?_
  refine Ev.ite_pos (by omega) ?_
  by_cases es : (i : Int) = s
  · refine Ev.ite_pos es ?_
    have Y := X (fun v a b c c' => by
     by_cases e : v = i
     · subst e; exact absurd es c
     · exact hp v a (by omega) c c')
    have e3 : wrap64 ((i : Int) + 1) = ((i + 1 : Nat) : Int) := wrap_succ (by omega)
    exact Ev.congr (fun k => by rw [e3]) Y
  · refine Ev.ite_neg es ?_
    by_cases et : (i : Int) = t
    · refine Ev.ite_pos et ?_
      have Y := X (fun v a b c c' => by
       by_cases e : v = i
       · subst e; exact absurd et c'
       · exact hp v a (by omega) c c')
      have e3 : wrap64 ((i : Int) + 1) = ((i + 1 : Nat) : Int) := wrap_succ (by omega)
      exact Ev.congr (fun k => by rw [e3]) Y
    · refine Ev.ite_neg et ?_
      refine Ev.bind (ref_Gain_ev V ls f (Fine.of hf hw) i) ?_
      by_cases hg : gain (net V ls) (rd f) i = 0
      · refine Ev.ite_pos hg ?_
        have Y := X (fun v a b c c' => by
         by_cases e : v = i
         · subst e; exact hg
         · exact hp v a (by omega) c c')
        have e3 : wrap64 ((i : Int) + 1) = ((i + 1 : Nat) : Int) := wrap_succ (by omega)
        exact Ev.congr (fun k => by rw [e3]) Y
      · refine Ev.ite_neg hg ?_
        rw [df (fun h : FlowOk V ls caps f s t => hg (h.keep i (by omega) (by omega) es et))]
        exact Ev.now _
theorem ref_FlowMay_ev (V : Int) (ls : List S53) (caps f : List Int) (s t : Int) (hx : f.length ≤ 17592186044416) : Ev (fun k => r4_FlowMay.f k V ls caps f s t) (decide (FlowOk V ls caps f s t)) := by
 have no : ¬ FlowOk V ls caps f s t → Ev (fun k => r4_FlowMay.j0 k f s t true V ls) (decide (FlowOk V ls caps f s t)) := by
  intro h
  rw [df h]
  refine Ev.step (fun k => by rw [r4_FlowMay.j0]) ?_
  exact Ev.ite_pos rfl (Ev.now _)
 unfold r4_FlowMay.f
 refine Ev.bind (ref_CapsMay_ev V ls caps) ?_
 by_cases hc : CapsOk V ls caps
 · refine Ev.ite_pos (dt hc) ?_
   refine Ev.bind (ref_Within_ev caps f hx) ?_
   by_cases hw : Win caps f
   · refine Ev.ite_pos (dt hw) ?_
     refine Ev.call (ref_Vertex_eq _ _ _) ?_
     by_cases hs : 0 ≤ s ∧ s < V
     · refine Ev.ite_pos (dt hs) ?_
       refine Ev.call (ref_Vertex_eq _ _ _) ?_
       by_cases ht : 0 ≤ t ∧ t < V
       · refine Ev.ite_pos (dt ht) ?_
         by_cases ne : s = t
         · refine Ev.ite_pos ne ?_
           exact no (fun g => g.ne ne)
         · refine Ev.ite_neg ne ?_
           refine Ev.bind (ref_Gain_ev V ls f (Fine.of hc hw) s) ?_
           by_cases hg : gain (net V ls) (rd f) s < 0
           · rw [dt hg]
             exact no (fun g => by have := g.pos; omega)
           · rw [df hg]
             refine Ev.step (fun k => by rw [r4_FlowMay.j0]) ?_
             refine Ev.ite_neg (by simp) ?_
             exact refflow_loop V ls caps f s t hc hw hs ht ne (by omega) V.toNat 0 (by omega) (by omega) (fun v a b => by omega)
       · refine Ev.ite_neg (by simp only [decide_eq_true_eq]; exact ht) ?_
         exact no (fun g => ht g.vt)
     · refine Ev.ite_neg (by simp only [decide_eq_true_eq]; exact hs) ?_
       exact no (fun g => hs g.vs)
   · refine Ev.ite_neg (by simp only [decide_eq_true_eq]; exact hw) ?_
     exact no (fun g => hw g.w)
 · refine Ev.ite_neg (by simp only [decide_eq_true_eq]; exact hc) ?_
   exact no (fun g => hc g.c)
theorem stream_Left_eq {caps f : List Int} (hl : f.length = caps.length) (hm : f.length ≤ 4096) (hw : ∀ i : Int, 0 ≤ i → i < (f.length : Int) → 0 ≤ rd f i ∧ rd f i ≤ rd caps i) (hc : ∀ i : Int, 0 ≤ i → i < (f.length : Int) → rd caps i ≤ 4611686018427387904) {k : Int} (h0 : 0 ≤ k) (h1 : k < 2 * (f.length : Int)) :
 stream_Left.f caps f k = some (room (rd caps) (rd f) k) := by
 unfold stream_Left.f
 have h2 := hw (k / 2) (by omega) (by omega)
 have h3 := hc (k / 2) (by omega) (by omega)
 rw [half h0 (by omega), odd_ h0]
 unfold room
 by_cases h : k % 2 = 1
 · rw [if_pos h, if_pos (by omega), if_pos (by omega), if_pos h]
 · rw [if_neg h, if_pos (by omega), if_pos (by omega), if_pos (by omega), if_neg h, wrap_id (by omega) (by omega)]
theorem ref_room_eq {caps f : List Int} (hl : f.length = caps.length) (hm : f.length ≤ 4096) (hw : ∀ i : Int, 0 ≤ i → i < (f.length : Int) → 0 ≤ rd f i ∧ rd f i ≤ rd caps i) (hc : ∀ i : Int, 0 ≤ i → i < (f.length : Int) → rd caps i ≤ 4611686018427387904) {k : Int} (h0 : 0 ≤ k) (h1 : k < 2 * (f.length : Int)) :
 r4_room.f caps f k = some (room (rd caps) (rd f) k) := by
 unfold r4_room.f
 have h2 := hw (k / 2) (by omega) (by omega)
 have h3 := hc (k / 2) (by omega) (by omega)
 rw [half h0 (by omega), odd_ h0]
 unfold room
 by_cases h : k % 2 = 1
 · rw [if_neg (by omega), if_pos (by omega), if_pos (by omega), if_pos h]
 · rw [if_pos (by omega), if_pos (by omega), if_pos (by omega), if_pos (by omega), if_neg h, wrap_id (by omega) (by omega)]
theorem CapsOk.small {V : Int} {ls : List S53} {caps : List Int} (h : CapsOk V ls caps) {i : Int} (h0 : 0 ≤ i) (h1 : i < (caps.length : Int)) : rd caps i ≤ 4611686018427387904 := by
 have h2 := h.le i h0 h1
 have h3 := h.g.cap_le (i := i) h0 (by rw [← h.len]; exact h1)
 omega
theorem left_ok {V : Int} {ls : List S53} {caps f : List Int} (h : CapsOk V ls caps) (w : Win caps f) {k : Int} (h0 : 0 ≤ k) (h1 : k < 2 * (ls.length : Int)) : stream_Left.f caps f k = some (room (rd caps) (rd f) k) := by
 have e1 := w.len
 have e2 := h.len
 have e3 := h.g.m16
 exact stream_Left_eq w.len (by omega) w.le (fun i a b => h.small a (by omega)) h0 (by omega)
theorem ref_room_ok {V : Int} {ls : List S53} {caps f : List Int} (h : CapsOk V ls caps) (w : Win caps f) {k : Int} (h0 : 0 ≤ k) (h1 : k < 2 * (ls.length : Int)) : r4_room.f caps f k = some (room (rd caps) (rd f) k) := by
 have e1 := w.len
 have e2 := h.len
 have e3 := h.g.m16
 exact ref_room_eq w.len (by omega) w.le (fun i a b => h.small a (by omega)) h0 (by omega)
theorem ref_Room_ev (V : Int) (ls : List S53) (caps f : List Int) (k : Int) (hx : f.length ≤ 17592186044416) :
 Ev (fun r => r4_Room.f r V ls caps f k) (if CapsOk V ls caps ∧ Win caps f ∧ 0 ≤ k ∧ k < 2 * (ls.length : Int) then (room (rd caps) (rd f) k, 0) else (0, 900)) := by
 unfold r4_Room.f
 refine Ev.bind (ref_CapsMay_ev V ls caps) ?_
 by_cases hc : CapsOk V ls caps
 · refine Ev.ite_pos (dt hc) ?_
   refine Ev.bind (ref_Within_ev caps f hx) ?_
   have hm := hc.g.m16
   by_cases hw : Win caps f
   · refine Ev.ite_pos (dt hw) ?_
     by_cases h0 : k < 0
     · refine Ev.ite_pos h0 ?_
       rw [if_neg (fun g => by omega)]
       exact Ev.now _
     · refine Ev.ite_neg h0 ?_
       rw [twice_ (by omega)]
       by_cases h1 : k ≥ 2 * (ls.length : Int)
       · refine Ev.ite_pos h1 ?_
         rw [if_neg (fun g => by omega)]
         exact Ev.now _
       · refine Ev.ite_neg h1 ?_
         refine Ev.call (ref_room_ok hc hw (by omega) (by omega)) ?_
         rw [if_pos ⟨hc, hw, by omega, by omega⟩]
         exact Ev.now _
   · refine Ev.ite_neg (by simp only [decide_eq_true_eq]; exact hw) ?_
     rw [if_neg (fun g => hw g.2.1)]
     exact Ev.now _
 · refine Ev.ite_neg (by simp only [decide_eq_true_eq]; exact hc) ?_
   rw [if_neg (fun g => hc g.1)]
   exact Ev.now _
theorem same_loop (xs ys : List Int) (hl : xs.length = ys.length) (hx : xs.length ≤ 17592186044416) (d : Nat) : ∀ (i : Nat), i ≤ xs.length → xs.length - i = d → (∀ j : Int, 0 ≤ j → j < (i : Int) → rd xs j = rd ys j) →
 Ev (fun k => rn_SameInts.l0 k xs ys (i : Int)) (decide (xs = ys)) := by
 induction d with
 | zero =>
  intro i hi hd hp
  obtain rfl : i = xs.length := by omega
  refine Ev.step (fun k => by rw [rn_SameInts.l0]) ?_
  refine Ev.ite_neg (by omega) ?_
  rw [dt (rd_ext hl hp)]
  exact Ev.now _
 | succ d ih =>
  intro i hi hd hp
  refine Ev.step (fun k => by rw [rn_SameInts.l0]) ?_
  refine Ev.ite_pos (by omega) ?_
  refine Ev.ite_pos (by omega) ?_
  refine Ev.ite_pos (by omega) ?_
  by_cases h : rd xs i = rd ys i
  · refine Ev.ite_pos h ?_
    have X := ih (i + 1) (by omega) (by omega) (fun j a b => by
     by_cases e : j = i
     · subst e; exact h
     · exact hp j a (by omega))
    have e3 : wrap64 ((i : Int) + 1) = ((i + 1 : Nat) : Int) := wrap_succ (by omega)
    exact Ev.congr (fun k => by rw [e3]) X
  · refine Ev.ite_neg h ?_
    rw [df (fun e => h (by rw [e]))]
    exact Ev.now _
theorem ref_SameInts_ev (xs ys : List Int) (hx : xs.length ≤ 17592186044416) : Ev (fun k => rn_SameInts.f k xs ys) (decide (xs = ys)) := by
 unfold rn_SameInts.f
 by_cases hl : xs.length = ys.length
 · refine Ev.ite_pos (by omega) ?_
   exact same_loop xs ys hl hx xs.length 0 (by omega) (by omega) (fun j a b => by omega)
 · refine Ev.ite_neg (by omega) ?_
   rw [df (fun e => hl (by rw [e]))]
   exact Ev.now _
theorem SameInts_ev (xs ys : List Int) (hx : xs.length ≤ 17592186044416) : Ev (fun k => tw_SameInts.f k xs ys) (decide (xs = ys)) := by
 unfold tw_SameInts.f
 exact Ev.bind (ref_SameInts_ev xs ys hx) (Ev.now _)
theorem SameInts_self (xs : List Int) (hx : xs.length ≤ 17592186044416) : Ev (fun k => tw_SameInts.f k xs xs) true := by
 have := SameInts_ev xs xs hx
 rwa [dt rfl] at this
def pushA (f : List Int) (by_ k : Int) : List Int := f.set (k / 2).toNat (rd f (k / 2) + (if k % 2 = 1 then -by_ else by_))
def mvL (caps : List Int) (by_ : Int) : List Int → List Int → Option (List Int)
 | f, [] => some f
 | f, k :: ks => if room (rd caps) (rd f) k < by_ then none else mvL caps by_ (pushA f by_ k) ks
structure MoveOk (V : Int) (ls : List S53) (caps f : List Int) (by_ : Int) (ks : List Int) : Prop where
 c : CapsOk V ls caps
 w : Win caps f
 rate : 0 ≤ by_ ∧ by_ ≤ 4611686018427387904
 few : ks.length ≤ 64
 arcs : ∀ i : Int, 0 ≤ i → i < (ks.length : Int) → 0 ≤ rd ks i ∧ rd ks i < 2 * (ls.length : Int)
noncomputable def moveR (V : Int) (ls : List S53) (caps f : List Int) (by_ : Int) (ks : List Int) : List Int × Int :=
 if MoveOk V ls caps f by_ ks then (match mvL caps by_ f ks with | some g => (g, 0) | none => ([], 901)) else ([], 900)
theorem pushA_len (f : List Int) (by_ k : Int) : (pushA f by_ k).length = f.length := by unfold pushA; rw [List.length_set]
theorem rd_pushA {f : List Int} {by_ k : Int} (h0 : 0 ≤ k) (h1 : k < 2 * (f.length : Int)) {i : Int} (i0 : 0 ≤ i) :
 rd (pushA f by_ k) i = if i = k / 2 then rd f i + (if k % 2 = 1 then -by_ else by_) else rd f i := by
 unfold pushA
 rw [rd_set (by omega) (by omega) i0]
 by_cases e : i = k / 2
 · rw [if_pos e, if_pos e, e]
 · rw [if_neg e, if_neg e]
theorem Win.push {caps f : List Int} (w : Win caps f) {by_ k : Int} (h0 : 0 ≤ k) (h1 : k < 2 * (f.length : Int)) (hb : 0 ≤ by_) (hr : by_ ≤ room (rd caps) (rd f) k) : Win caps (pushA f by_ k) := by
 refine ⟨by rw [pushA_len]; exact w.len, fun i a b => ?_⟩
 rw [pushA_len] at b
 rw [rd_pushA h0 h1 a]
 have h2 := w.le i a b
 by_cases e : i = k / 2
 · rw [if_pos e]
   unfold room at hr
   by_cases o : k % 2 = 1
   · rw [if_pos o] at hr ⊢; rw [← e] at hr; omega
   · rw [if_neg o] at hr ⊢; rw [← e] at hr; omega
 · rw [if_neg e]; exact h2
theorem drop_rd {xs : List Int} {i : Nat} (h : i < xs.length) : xs.drop i = rd xs (i : Int) :: xs.drop (i + 1) := by
 rw [List.drop_eq_getElem_cons h]
 simp only [rd, Int.toNat_natCast, List.getD_eq_getElem?_getD, List.getElem?_eq_getElem h]
 rfl
theorem stream_move_eq {f : List Int} {by_ k : Int} (hm : f.length ≤ 4096) (h0 : 0 ≤ k) (h1 : k < 2 * (f.length : Int)) (hb : 0 ≤ by_ ∧ by_ ≤ 4611686018427387904) (hf : 0 ≤ rd f (k / 2) ∧ rd f (k / 2) ≤ 4611686018427387904)
 (hr : k % 2 = 1 → by_ ≤ rd f (k / 2)) (hr2 : ¬ k % 2 = 1 → rd f (k / 2) + by_ ≤ 4611686018427387904) : stream_move.f f by_ k = some (pushA f by_ k) := by
 unfold stream_move.f pushA
 rw [half h0 (by omega), odd_ h0]
 by_cases o : k % 2 = 1
 · have := hr o
   rw [if_pos o, if_pos (by omega), if_pos (by omega), if_pos o, wrap_id (x := -by_) (by omega) (by omega), wrap_id (by omega) (by omega)]
 · have := hr2 o
   rw [if_neg o, if_pos (by omega), if_pos (by omega), if_neg o, wrap_id (by omega) (by omega)]
theorem Clone_eq {xs : List Int} (h : xs.length < 17592186044416) : slices_Clone_int_int.f xs = some xs := by
 unfold slices_Clone_int_int.f
 simp only [Option.bind_some]
 rw [if_pos (by simpa using h)]
 rfl
theorem room_cases {caps f : List Int} {k by_ : Int} (hr : by_ ≤ room (rd caps) (rd f) k) : (k % 2 = 1 → by_ ≤ rd f (k / 2)) ∧ (¬ k % 2 = 1 → rd f (k / 2) + by_ ≤ rd caps (k / 2)) := by
 unfold room at hr
 constructor
 · intro o; rwa [if_pos o] at hr
 · intro o; rw [if_neg o] at hr; omega
theorem move_go {V : Int} {ls : List S53} {caps : List Int} (c : CapsOk V ls caps) {by_ : Int} (hb : 0 ≤ by_ ∧ by_ ≤ 4611686018427387904) (ks : List Int) (hk : ks.length ≤ 64) (ha : ∀ i : Int, 0 ≤ i → i < (ks.length : Int) → 0 ≤ rd ks i ∧ rd ks i < 2 * (ls.length : Int)) (d : Nat) :
 ∀ (i : Nat) (f : List Int), Win caps f → i ≤ ks.length → ks.length - i = d →
 Ev (fun k => stream_Move.l1 k caps by_ f ks (ks.length : Int) (i : Int)) (match mvL caps by_ f (ks.drop i) with | some g => (g, 0) | none => ([], 901)) := by
 have hm := c.g.m16
 have hcl := c.len
 induction d with
 | zero =>
  intro i f w hi hd
  obtain rfl : i = ks.length := by omega
  refine Ev.step (fun k => by rw [stream_Move.l1]) ?_
  refine Ev.ite_neg (by omega) ?_
  rw [List.drop_length]
  exact Ev.now _
 | succ d ih =>
  intro i f w hi hd
  have hw := w.len
  have h1 := ha (i : Int) (by omega) (by omega)
  have h2 := w.le (rd ks (i : Int) / 2) (by omega) (by omega)
  have h3 := c.small (i := rd ks (i : Int) / 2) (by omega) (by omega)
  refine Ev.step (fun k => by rw [stream_Move.l1]) ?_
  refine Ev.ite_pos (by omega) ?_
  refine Ev.ite_pos (by omega) ?_
  refine Ev.ite_pos (by omega) ?_
  refine Ev.call (left_ok c w h1.1 h1.2) ?_
  rw [drop_rd (show i < ks.length by omega)]
  unfold mvL
  by_cases hr : room (rd caps) (rd f) (rd ks (i : Int)) < by_
  · refine Ev.ite_pos hr ?_
    rw [if_pos hr]
    exact Ev.now _
  · refine Ev.ite_neg hr ?_
    rw [if_neg hr]
    have h4 := room_cases (caps := caps) (f := f) (k := rd ks (i : Int)) (by_ := by_) (by omega)
    have X := ih (i + 1) (pushA f by_ (rd ks (i : Int))) (w.push h1.1 (by omega) hb.1 (by omega)) (by omega) (by omega)
    refine Ev.call (stream_move_eq (by omega) h1.1 (by omega) hb (by omega) h4.1 (fun o => by have := h4.2 o; omega)) ?_
    have e3 : wrap64 ((i : Int) + 1) = ((i + 1 : Nat) : Int) := wrap_succ (by omega)
    exact Ev.congr (fun k => by rw [e3]) X
theorem move_check {V : Int} {ls : List S53} {caps f : List Int} (c : CapsOk V ls caps) (w : Win caps f) {by_ : Int} (hb : 0 ≤ by_ ∧ by_ ≤ 4611686018427387904) (ks : List Int) (hk : ks.length ≤ 64) (d : Nat) :
 ∀ (i : Nat), i ≤ ks.length → ks.length - i = d → (∀ j : Int, 0 ≤ j → j < (i : Int) → 0 ≤ rd ks j ∧ rd ks j < 2 * (ls.length : Int)) →
 Ev (fun k => stream_Move.l0 k caps f by_ ks ks (ks.length : Int) (i : Int)) (moveR V ls caps f by_ ks) := by
 have hm := c.g.m16
 have hl : f.length = ls.length := by rw [w.len, c.len]
 induction d with
 | zero =>
  intro i hi hd hp
  obtain rfl : i = ks.length := by omega
  refine Ev.step (fun k => by rw [stream_Move.l0]) ?_
  refine Ev.ite_neg (by omega) ?_
  refine Ev.call (Clone_eq (by omega)) ?_
  unfold moveR
  rw [if_pos ⟨c, w, hb, hk, hp⟩]
  exact move_go c hb ks hk hp ks.length 0 f w (by omega) (by omega)
 | succ d ih =>
  intro i hi hd hp
  refine Ev.step (fun k => by rw [stream_Move.l0]) ?_
  refine Ev.ite_pos (by omega) ?_
  refine Ev.ite_pos (by omega) ?_
  refine Ev.ite_pos (by omega) ?_
  by_cases h0 : rd ks (i : Int) < 0
  · refine Ev.ite_pos h0 ?_
    unfold moveR
    rw [if_neg (fun g => by have := g.arcs i (by omega) (by omega); omega)]
    exact Ev.now _
  · refine Ev.ite_neg h0 ?_
    rw [hl, twice_ (by omega)]
    by_cases h1 : rd ks (i : Int) ≥ 2 * (ls.length : Int)
    · refine Ev.ite_pos h1 ?_
      unfold moveR
      rw [if_neg (fun g => by have := g.arcs i (by omega) (by omega); omega)]
      exact Ev.now _
    · refine Ev.ite_neg h1 ?_
      have X := ih (i + 1) (by omega) (by omega) (fun j a b => by
       by_cases e : j = i
       · subst e; omega
       · exact hp j a (by omega))
      have e3 : wrap64 ((i : Int) + 1) = ((i + 1 : Nat) : Int) := wrap_succ (by omega)
      exact Ev.congr (fun k => by rw [e3]) X
theorem stream_Move_ev (V : Int) (ls : List S53) (caps f : List Int) (by_ : Int) (ks : List Int) : Ev (fun k => stream_Move.f k V ls caps f by_ ks) (moveR V ls caps f by_ ks) := by
 have no : ¬ MoveOk V ls caps f by_ ks → Ev (fun k => stream_Move.j0 k caps f by_ ks true) (moveR V ls caps f by_ ks) := by
  intro h
  unfold moveR
  rw [if_neg h]
  refine Ev.step (fun k => by rw [stream_Move.j0]) ?_
  exact Ev.ite_pos rfl (Ev.now _)
 unfold stream_Move.f
 refine Ev.bind (stream_Lies_ev V ls caps f) ?_
 by_cases h : CapsOk V ls caps ∧ Win caps f
 · refine Ev.ite_pos (dt h) ?_
   refine Ev.call (rate_Is_eq _) ?_
   by_cases hb : 0 ≤ by_ ∧ by_ ≤ 4611686018427387904
   · refine Ev.ite_pos (dt hb) ?_
     by_cases hk : (ks.length : Int) > 64
     · rw [dt hk]
       exact no (fun g => by have := g.few; omega)
     · rw [df hk]
       refine Ev.step (fun k => by rw [stream_Move.j0]) ?_
       refine Ev.ite_neg (by simp) ?_
       exact move_check h.1 h.2 hb ks (by omega) ks.length 0 (by omega) (by omega) (fun j a b => by omega)
   · refine Ev.ite_neg (by simp only [decide_eq_true_eq]; exact hb) ?_
     exact no (fun g => hb g.rate)
 · refine Ev.ite_neg (by simp only [decide_eq_true_eq]; exact h) ?_
   exact no (fun g => h ⟨g.c, g.w⟩)
theorem rowOf_small {V : Int} {ls : List S53} (h : GOk V ls) (v : Int) : (rowOf (net V ls) v).length ≤ 32 := by
 have h1 := rowTo_len (net V ls) v (2 * (net V ls).m)
 have h3 := h.m16
 rw [net_m] at h1
 unfold rowOf
 rw [net_m]
 omega
theorem tail_vert {V : Int} {ls : List S53} (h : GOk V ls) {k : Int} (hk : (net V ls).arc k) : 0 ≤ tail (net V ls) k ∧ tail (net V ls) k < V := by
 unfold Net.arc at hk
 rw [net_m] at hk
 have h1 := h.end_ (i := k / 2) (by omega) (by omega)
 unfold tail
 split
 · exact h1.2.1
 · exact h1.1
theorem head_vert {V : Int} {ls : List S53} (h : GOk V ls) {k : Int} (hk : (net V ls).arc k) : 0 ≤ head (net V ls) k ∧ head (net V ls) k < V := by
 unfold Net.arc at hk
 rw [net_m] at hk
 have h1 := h.end_ (i := k / 2) (by omega) (by omega)
 unfold head
 split
 · exact h1.1
 · exact h1.2.1
theorem res_vert {V : Int} {ls : List S53} (h : GOk V ls) {c f : Int → Int} {u v : Int} (r : Res (net V ls) c f u v) : (0 ≤ u ∧ u < V) ∧ (0 ≤ v ∧ v < V) := by
 obtain ⟨k, ha, ht, hh, _⟩ := r
 exact ⟨by rw [← ht]; exact tail_vert h ha, by rw [← hh]; exact head_vert h ha⟩
theorem rd_mem {xs : List Int} {i : Int} (h0 : 0 ≤ i) (h1 : i < (xs.length : Int)) : rd xs i ∈ xs := gd_mem (by omega)
theorem mem_rd {xs : List Int} {x : Int} (h : x ∈ xs) : ∃ i : Int, 0 ≤ i ∧ i < (xs.length : Int) ∧ rd xs i = x := by
 obtain ⟨i, hi, e⟩ := mem_gd 0 h
 exact ⟨(i : Int), by omega, by omega, by unfold rd; rw [Int.toNat_natCast]; exact e⟩
structure Bfs (V : Nat) (E : Int → Int → Prop) (s : Int) (out row : List Int) : Prop where
 len : out.length = V
 src : rd out s = 0
 low : ∀ v : Int, 0 ≤ v → v < (V : Int) → -1 ≤ rd out v
 back : ∀ v : Int, 0 ≤ v → v < (V : Int) → 1 ≤ rd out v → ∃ u : Int, 0 ≤ u ∧ u < (V : Int) ∧ E u v ∧ rd out u = rd out v - 1
 zero : ∀ v : Int, 0 ≤ v → v < (V : Int) → rd out v = 0 → v = s
 rowv : ∀ x ∈ row, (0 ≤ x ∧ x < (V : Int)) ∧ 0 ≤ rd out x
 first : ∀ x ∈ row, rd out (rd row 0) ≤ rd out x
 sorted : ∀ i j : Int, 0 ≤ i → i ≤ j → j < (row.length : Int) → rd out (rd row i) ≤ rd out (rd row j)
 top : row ≠ [] → ∀ v : Int, 0 ≤ v → v < (V : Int) → rd out v ≤ rd out (rd row 0) + 1
 done : ∀ v : Int, 0 ≤ v → v < (V : Int) → 0 ≤ rd out v → v ∉ row → ∀ w : Int, 0 ≤ w → w < (V : Int) → E v w → 0 ≤ rd out w ∧ rd out w ≤ rd out v + 1
def unl (V : Nat) (out : List Int) : Int := cnt V (fun v => decide (rd out v < 0))
def meas (V : Nat) (out row : List Int) : Int := 2 * unl V out + (row.length : Int)
theorem Bfs.lev {V : Nat} {E : Int → Int → Prop} {s : Int} {out : List Int} (h : Bfs V E s out []) : Lev V E s (rd out) :=
 ⟨h.src, h.low, fun u v u0 u1 v0 v1 hE hu => h.done u u0 u1 hu (by simp) v v0 v1 hE, h.back, h.zero⟩
theorem cnt_drop {V : Nat} {out : List Int} {w x : Int} (w0 : 0 ≤ w) (w1 : w < (V : Int)) (hl : out.length = V) (hw : rd out w < 0) (hx : 0 ≤ x) : unl V (out.set w.toNat x) + 1 ≤ unl V out := by
 unfold unl
 refine cnt_lt (fun v v0 v1 hv => ?_) w0 w1 ?_ (dt hw)
 · rw [decide_eq_true_eq] at hv ⊢
   rw [rd_set w0 (by omega) v0] at hv
   by_cases e : v = w
   · subst e; exact hw
   · rwa [if_neg e] at hv
 · rw [decide_eq_false_iff_not, rd_set w0 (by omega) w0, if_pos rfl]; omega
theorem rd_zero_cons {x : Int} {xs : List Int} : rd (x :: xs) 0 = x := rfl
theorem rd_succ_cons {x : Int} {xs : List Int} {i : Int} (h : 0 ≤ i) : rd (x :: xs) (i + 1) = rd xs i := by
 unfold rd
 rw [show (i + 1).toNat = i.toNat + 1 by omega]
 simp
theorem Bfs.label {V : Nat} {E : Int → Int → Prop} {s : Int} {out row : List Int} (h : Bfs V E s out row) (hr : 0 < row.length) (hE : ∀ u v : Int, E u v → 0 ≤ v ∧ v < (V : Int)) {w : Int} (w0 : 0 ≤ w) (w1 : w < (V : Int)) (hw : rd out w < 0) (he : E (rd row 0) w) :
 Bfs V E s (out.set w.toNat (rd out (rd row 0) + 1)) (row ++ [w]) := by
 have hl := h.len
 have hv := h.rowv (rd row 0) (rd_mem (by omega) (by omega))
 have hrw : ∀ v : Int, 0 ≤ v → rd (out.set w.toNat (rd out (rd row 0) + 1)) v = if v = w then rd out (rd row 0) + 1 else rd out v := fun v v0 => rd_set w0 (by omega) v0
 have hne : ∀ x ∈ row, x ≠ w := fun x hx e => by have := (h.rowv x hx).2; rw [e] at this; omega
 have h0 : rd (row ++ [w]) 0 = rd row 0 := rd_left (by omega) (by omega)
 have hf : rd (out.set w.toNat (rd out (rd row 0) + 1)) (rd row 0) = rd out (rd row 0) := by rw [hrw _ hv.1.1, if_neg (hne _ (rd_mem (by omega) (by omega)))]
 have htop := h.top (by intro e; rw [e] at hr; simp at hr)
 refine ⟨by rw [List.length_set]; exact hl, ?_, ?_, ?_, ?_, ?_, ?_, ?_, ?_, ?_⟩
 · have hs0 := h.src
   by_cases e : s = w
   · rw [e] at hs0; omega
   · by_cases s0 : 0 ≤ s
     · rw [hrw s s0, if_neg e]; exact hs0
     · by_cases ew : w = 0
       · exfalso
         have : rd out s = rd out w := by unfold rd; rw [ew, show s.toNat = (0 : Int).toNat by omega]
         omega
       · unfold rd at hs0 ⊢
         rw [gd_set_ne (by omega)]; exact hs0
 · intro v v0 v1
   rw [hrw v v0]
   split
   · omega
   · exact h.low v v0 v1
 · intro v v0 v1 hv1
   rw [hrw v v0] at hv1 ⊢
   by_cases e : v = w
   · subst e
     rw [if_pos rfl]
     exact ⟨rd row 0, hv.1.1, hv.1.2, he, by rw [hf]; omega⟩
   · rw [if_neg e] at hv1 ⊢
     obtain ⟨u, u0, u1, hEu, hu⟩ := h.back v v0 v1 hv1
     refine ⟨u, u0, u1, hEu, ?_⟩
     rw [hrw u u0, if_neg (fun e2 => by rw [e2] at hu; omega)]
     exact hu
 · intro v v0 v1 hz
   rw [hrw v v0] at hz
   by_cases e : v = w
   · rw [if_pos e] at hz; omega
   · rw [if_neg e] at hz
     exact h.zero v v0 v1 hz
 · intro x hx
   rcases List.mem_append.1 hx with hx | hx
   · have := h.rowv x hx
     exact ⟨this.1, by rw [hrw x this.1.1, if_neg (hne x hx)]; exact this.2⟩
   · rw [List.mem_singleton.1 hx]
     exact ⟨⟨w0, w1⟩, by rw [hrw w w0, if_pos rfl]; omega⟩
 · intro x hx
   rw [h0, hf]
   rcases List.mem_append.1 hx with hx | hx
   · rw [hrw x (h.rowv x hx).1.1, if_neg (hne x hx)]
     exact h.first x hx
   · rw [List.mem_singleton.1 hx, hrw w w0, if_pos rfl]; omega
 · intro i j i0 ij jl
   rw [List.length_append] at jl
   simp only [List.length_cons, List.length_nil] at jl
   by_cases hj : j < (row.length : Int)
   · rw [rd_left i0 (by omega), rd_left (by omega) hj]
     have m1 := rd_mem (xs := row) i0 (by omega)
     have m2 := rd_mem (xs := row) (i := j) (by omega) hj
     rw [hrw _ (h.rowv _ m1).1.1, if_neg (hne _ m1), hrw _ (h.rowv _ m2).1.1, if_neg (hne _ m2)]
     exact h.sorted i j i0 ij hj
   · have ej : j = (row.length : Int) := by omega
     have e2 : rd (row ++ [w]) j = w := by rw [ej]; exact rd_new
     rw [e2, hrw w w0, if_pos rfl]
     by_cases hi : i < (row.length : Int)
     · have m1 := rd_mem (xs := row) i0 hi
       rw [rd_left i0 hi, hrw _ (h.rowv _ m1).1.1, if_neg (hne _ m1)]
       exact htop _ (h.rowv _ m1).1.1 (h.rowv _ m1).1.2
     · have ei : i = (row.length : Int) := by omega
       have e3 : rd (row ++ [w]) i = w := by rw [ei]; exact rd_new
       rw [e3, hrw w w0, if_pos rfl]
       exact Int.le_refl _
 · intro _ v v0 v1
   rw [h0, hf, hrw v v0]
   split
   · exact Int.le_refl _
   · exact htop v v0 v1
 · intro v v0 v1 hv1 hn u u0 u1 hEu
   have hnr : v ∉ row := fun hx => hn (List.mem_append.2 (.inl hx))
   have hnw : v ≠ w := fun e => hn (List.mem_append.2 (.inr (by rw [e]; exact List.mem_singleton.2 rfl)))
   rw [hrw v v0, if_neg hnw] at hv1 ⊢
   have hd := h.done v v0 v1 hv1 hnr u u0 u1 hEu
   rw [hrw u u0, if_neg (fun e => by rw [e] at hd; omega)]
   exact hd
theorem Bfs.pop {V : Nat} {E : Int → Int → Prop} {s : Int} {out row : List Int} (h : Bfs V E s out row) (hr : 0 < row.length) (hd : ∀ w : Int, 0 ≤ w → w < (V : Int) → E (rd row 0) w → 0 ≤ rd out w ∧ rd out w ≤ rd out (rd row 0) + 1) :
 Bfs V E s out (row.drop 1) := by
 obtain ⟨x, t, rfl⟩ : ∃ x t, row = x :: t := by
  cases row with
  | nil => simp at hr
  | cons x t => exact ⟨x, t, rfl⟩
 rw [rd_zero_cons] at hd
 show Bfs V E s out t
 have hlast : ∀ i j : Int, 0 ≤ i → i ≤ j → j < (t.length : Int) → rd out (rd t i) ≤ rd out (rd t j) := by
  intro i j i0 ij jl
  have := h.sorted (i + 1) (j + 1) (by omega) (by omega) (by simp only [List.length_cons]; omega)
  rwa [rd_succ_cons i0, rd_succ_cons (by omega)] at this
 refine ⟨h.len, h.src, h.low, h.back, h.zero, fun y hy => h.rowv y (List.mem_cons_of_mem _ hy), ?_, hlast, ?_, ?_⟩
 · intro y hy
   obtain ⟨i, i0, i1, e⟩ := mem_rd hy
   rw [← e]
   exact hlast 0 i (by omega) i0 i1
 · intro hne v v0 v1
   have h1 := h.top (by simp) v v0 v1
   rw [rd_zero_cons] at h1
   have h2 := h.first (rd t 0) (List.mem_cons_of_mem _ (rd_mem (by omega) (by have := List.length_pos_iff.2 hne; omega)))
   rw [rd_zero_cons] at h2
   omega
 · intro v v0 v1 hv hn w w0 w1 hE
   by_cases e : v = x
   · subst e; exact hd w w0 w1 hE
   · exact h.done v v0 v1 hv (by intro hm; rcases List.mem_cons.1 hm with hm | hm; exact e hm; exact hn hm) w w0 w1 hE
theorem Bfs.many {V : Nat} {E : Int → Int → Prop} {s : Int} {out row : List Int} (h : Bfs V E s out row) (d : Nat) :
 ∀ v : Int, 0 ≤ v → v < (V : Int) → rd out v = d → (d : Int) + 1 ≤ cnt V (fun u => decide (0 ≤ rd out u ∧ rd out u ≤ d)) := by
 induction d with
 | zero =>
  intro v h0 h1 e
  have := cnt_lt (V := V) (P := fun _ => false) (Q := fun u => decide (0 ≤ rd out u ∧ rd out u ≤ (0 : Nat))) (by simp) h0 h1 rfl (by simp; omega)
  have := cnt_nonneg V (fun _ => false)
  omega
 | succ d ih =>
  intro v h0 h1 e
  obtain ⟨u, u0, u1, hE, hu⟩ := h.back v h0 h1 (by omega)
  have h2 := ih u u0 u1 (by omega)
  have h3 := cnt_lt (V := V) (P := fun u => decide (0 ≤ rd out u ∧ rd out u ≤ d)) (Q := fun u => decide (0 ≤ rd out u ∧ rd out u ≤ ((d + 1 : Nat) : Int)))
   (fun w _ _ hw => by simp at hw ⊢; omega) h0 h1 (by simp; omega) (by simp; omega)
  omega
theorem bfs_lt {V : Nat} {E : Int → Int → Prop} {s : Int} {out row : List Int} (h : Bfs V E s out row) (v : Int) (h0 : 0 ≤ v) (h1 : v < (V : Int)) : rd out v < V := by
 by_cases a : 0 ≤ rd out v
 · have h2 := h.many (rd out v).toNat v h0 h1 (by omega)
   have h3 := cnt_le V (fun u => decide (0 ≤ rd out u ∧ rd out u ≤ ((rd out v).toNat : Int)))
   omega
 · omega
theorem unl_nonneg (V : Nat) (out : List Int) : 0 ≤ unl V out := cnt_nonneg _ _
theorem unl_le (V : Nat) (out : List Int) : unl V out ≤ V := cnt_le _ _
section
variable {V : Int} {ls : List S53} {caps f : List Int} {s : Int}
theorem bfs_inner (hc : CapsOk V ls caps) (hw : Win caps f) (M : Int) (hMs : M ≤ 1000) (ih : ∀ out row : List Int, Bfs V.toNat (Res (net V ls) (rd caps) (rd f)) s out row → meas V.toNat out row < M →
 ∃ r : List Int, r.length = V.toNat ∧ Lev V.toNat (Res (net V ls) (rd caps) (rd f)) s (rd r) ∧ Ev (fun k => level_Levels.l0 k caps f out row (starts (net V ls)) (order (net V ls)) (heads (net V ls))) (r, 0)) (v : Int) (d : Nat) :
 ∀ (i : Nat) (out row : List Int), i ≤ (rowOf (net V ls) v).length → (rowOf (net V ls) v).length - i = d → Bfs V.toNat (Res (net V ls) (rd caps) (rd f)) s out row → 0 < row.length → rd row 0 = v → meas V.toNat out row ≤ M →
  (∀ j : Int, 0 ≤ j → j < (i : Int) → 0 < room (rd caps) (rd f) (rd (rowOf (net V ls) v) j) → 0 ≤ rd out (head (net V ls) (rd (rowOf (net V ls) v) j)) ∧ rd out (head (net V ls) (rd (rowOf (net V ls) v) j)) ≤ rd out v + 1) →
  ∃ r : List Int, r.length = V.toNat ∧ Lev V.toNat (Res (net V ls) (rd caps) (rd f)) s (rd r) ∧ Ev (fun k => level_Levels.l1 k caps f out row v (rowOf (net V ls) v) ((rowOf (net V ls) v).length : Int) (i : Int) (starts (net V ls)) (order (net V ls)) (heads (net V ls))) (r, 0) := by
 have hv8 := hc.g.v8
 have hv2 := hc.g.v2
 have hm := hc.g.m16
 have hhl := heads_len (net V ls)
 rw [net_m] at hhl
 have hEv : ∀ u w : Int, Res (net V ls) (rd caps) (rd f) u w → 0 ≤ w ∧ w < (V.toNat : Int) := fun u w r => by have := (res_vert hc.g r).2; omega
 induction d with
 | zero =>
  intro i out row hi hd hB hr hv hM hp
  have hi2 : i = (rowOf (net V ls) v).length := by omega
  have hB2 := hB.pop hr (by
   intro w w0 w1 hE
   rw [hv] at hE ⊢
   obtain ⟨k, ha, ht, hh, hroom⟩ := hE
   obtain ⟨j, j0, j1, ej⟩ := mem_rd (rowOf_mem.2 ⟨ha, ht⟩)
   have := hp j j0 (by omega) (by rw [ej]; exact hroom)
   rw [ej, hh] at this
   exact this)
  have hdl : (row.drop 1).length = row.length - 1 := by simp
  obtain ⟨r, r1, r2, r3⟩ := ih out (row.drop 1) hB2 (by unfold meas at hM ⊢; omega)
  refine ⟨r, r1, r2, Ev.step (fun k => by rw [level_Levels.l1]) ?_⟩
  refine Ev.ite_neg (by omega) ?_
  refine Ev.ite_pos (by omega) ?_
  exact r3
 | succ d ihd =>
  intro i out row hi hd hB hr hv hM hp
  have hmem := rd_mem (xs := rowOf (net V ls) v) (i := (i : Int)) (by omega) (by omega)
  obtain ⟨ha, ht⟩ := rowOf_mem.1 hmem
  have ha2 := ha
  unfold Net.arc at ha2
  rw [net_m] at ha2
  have hh := head_vert hc.g ha
  have eh : rd (heads (net V ls)) (rd (rowOf (net V ls) v) (i : Int)) = head (net V ls) (rd (rowOf (net V ls) v) (i : Int)) := rd_heads _ ha2.1 (by rw [net_m]; exact ha2.2)
  have hvv := hB.rowv v (by rw [← hv]; exact rd_mem (by omega) (by omega))
  have hol := hB.len
  have next : ∀ (out' row' : List Int), Bfs V.toNat (Res (net V ls) (rd caps) (rd f)) s out' row' → 0 < row'.length → rd row' 0 = v → meas V.toNat out' row' ≤ M →
   (∀ j : Int, 0 ≤ j → j < ((i + 1 : Nat) : Int) → 0 < room (rd caps) (rd f) (rd (rowOf (net V ls) v) j) → 0 ≤ rd out' (head (net V ls) (rd (rowOf (net V ls) v) j)) ∧ rd out' (head (net V ls) (rd (rowOf (net V ls) v) j)) ≤ rd out' v + 1) →
   ∃ r : List Int, r.length = V.toNat ∧ Lev V.toNat (Res (net V ls) (rd caps) (rd f)) s (rd r) ∧ Ev (fun k => level_Levels.l1 k caps f out' row' v (rowOf (net V ls) v) ((rowOf (net V ls) v).length : Int) (wrap64 ((i : Int) + 1)) (starts (net V ls)) (order (net V ls)) (heads (net V ls))) (r, 0) := by
   intro out' row' b1 b2 b3 b4 b5
   obtain ⟨r, r1, r2, r3⟩ := ihd (i + 1) out' row' (by omega) (by omega) b1 b2 b3 b4 b5
   have hrl := rowOf_small hc.g v
   have e3 : wrap64 ((i : Int) + 1) = ((i + 1 : Nat) : Int) := wrap_succ (by omega)
   exact ⟨r, r1, r2, by rw [e3]; exact r3⟩
  by_cases hneg : rd out (head (net V ls) (rd (rowOf (net V ls) v) (i : Int))) < 0
  · by_cases hroom : room (rd caps) (rd f) (rd (rowOf (net V ls) v) (i : Int)) > 0
    · have hE : Res (net V ls) (rd caps) (rd f) (rd row 0) (head (net V ls) (rd (rowOf (net V ls) v) (i : Int))) := ⟨_, ha, by rw [hv]; exact ht, rfl, hroom⟩
      have hB2 := hB.label hr hEv hh.1 (by omega) hneg hE
      rw [hv] at hB2
      have htop := hB.top (by intro e; rw [e] at hr; simp at hr)
      have hun := cnt_drop (V := V.toNat) (out := out) (w := head (net V ls) (rd (rowOf (net V ls) v) (i : Int))) (x := rd out v + 1) hh.1 (by omega) hol hneg (by omega)
      have hset : ∀ u : Int, 0 ≤ u → rd (out.set (head (net V ls) (rd (rowOf (net V ls) v) (i : Int))).toNat (rd out v + 1)) u = if u = head (net V ls) (rd (rowOf (net V ls) v) (i : Int)) then rd out v + 1 else rd out u := fun u u0 => rd_set hh.1 (by omega) u0
      have hvn : v ≠ head (net V ls) (rd (rowOf (net V ls) v) (i : Int)) := fun e => by rw [← e] at hneg; omega
      obtain ⟨r, r1, r2, r3⟩ := next _ _ hB2 (by simp) (by rw [rd_left (by omega) (by omega)]; exact hv) (by unfold meas at hM ⊢; simp only [List.length_append, List.length_cons, List.length_nil]; omega) (fun j j0 j1 jr => by
       have hjm := rowOf_mem.1 (rd_mem (xs := rowOf (net V ls) v) (i := j) j0 (by omega))
       have hjh := head_vert hc.g hjm.1
       rw [hset _ hjh.1, hset v hvv.1.1, if_neg hvn]
       by_cases e : head (net V ls) (rd (rowOf (net V ls) v) j) = head (net V ls) (rd (rowOf (net V ls) v) (i : Int))
       · rw [if_pos e]; omega
       · rw [if_neg e]
         by_cases e2 : j = (i : Int)
         · rw [e2] at e; exact absurd rfl e
         · exact hp j j0 (by omega) jr)
      refine ⟨r, r1, r2, Ev.step (fun k => by rw [level_Levels.l1]) ?_⟩
      refine Ev.ite_pos (by omega) ?_
      refine Ev.ite_pos (by omega) ?_
      refine Ev.ite_pos (by omega) ?_
      refine Ev.ite_pos (by omega) ?_
      refine Ev.ite_pos (by omega) ?_
      rw [eh]
      refine Ev.ite_pos hh.1 ?_
      refine Ev.ite_pos (by omega) ?_
      refine Ev.ite_pos hneg ?_
      refine Ev.call (left_ok hc hw ha2.1 ha2.2) ?_
      refine Ev.ite_pos hroom ?_
      refine Ev.ite_pos hvv.1.1 ?_
      refine Ev.ite_pos (by omega) ?_
      have hlow := hB.low v hvv.1.1 hvv.1.2
      have hlt := bfs_lt hB v hvv.1.1 hvv.1.2
      refine Ev.ite_pos ?_ ?_
      · have := unl_nonneg V.toNat out
        unfold meas at hM
        omega
      · have e4 : wrap64 (rd out v + 1) = rd out v + 1 := wrap_id (by omega) (by omega)
        exact Ev.congr (fun k => by rw [e4]) r3
    · obtain ⟨r, r1, r2, r3⟩ := next out row hB hr hv hM (fun j j0 j1 jr => by
       by_cases e2 : j = (i : Int)
       · rw [e2] at jr; omega
       · exact hp j j0 (by omega) jr)
      refine ⟨r, r1, r2, Ev.step (fun k => by rw [level_Levels.l1]) ?_⟩
      refine Ev.ite_pos (by omega) ?_
      refine Ev.ite_pos (by omega) ?_
      refine Ev.ite_pos (by omega) ?_
      refine Ev.ite_pos (by omega) ?_
      refine Ev.ite_pos (by omega) ?_
      rw [eh]
      refine Ev.ite_pos hh.1 ?_
      refine Ev.ite_pos (by omega) ?_
      refine Ev.ite_pos hneg ?_
      refine Ev.call (left_ok hc hw ha2.1 ha2.2) ?_
      exact Ev.ite_neg hroom r3
  · obtain ⟨r, r1, r2, r3⟩ := next out row hB hr hv hM (fun j j0 j1 jr => by
     by_cases e2 : j = (i : Int)
     · rw [e2]
       have htop := hB.top (by intro e; rw [e] at hr; simp at hr) _ hh.1 (by omega)
       rw [hv] at htop
       omega
     · exact hp j j0 (by omega) jr)
    refine ⟨r, r1, r2, Ev.step (fun k => by rw [level_Levels.l1]) ?_⟩
    refine Ev.ite_pos (by omega) ?_
    refine Ev.ite_pos (by omega) ?_
    refine Ev.ite_pos (by omega) ?_
    refine Ev.ite_pos (by omega) ?_
    refine Ev.ite_pos (by omega) ?_
    rw [eh]
    refine Ev.ite_pos hh.1 ?_
    refine Ev.ite_pos (by omega) ?_
    exact Ev.ite_neg hneg r3
theorem bfs_outer (hc : CapsOk V ls caps) (hw : Win caps f) (n : Nat) : ∀ (out row : List Int), Bfs V.toNat (Res (net V ls) (rd caps) (rd f)) s out row → meas V.toNat out row ≤ (n : Int) → n ≤ 1000 →
 ∃ r : List Int, r.length = V.toNat ∧ Lev V.toNat (Res (net V ls) (rd caps) (rd f)) s (rd r) ∧ Ev (fun k => level_Levels.l0 k caps f out row (starts (net V ls)) (order (net V ls)) (heads (net V ls))) (r, 0) := by
 have hv8 := hc.g.v8
 have hv2 := hc.g.v2
 have hV := net_V (V := V) (ls := ls) (by omega)
 induction n with
 | zero =>
  intro out row hB hM _
  have h1 := unl_nonneg V.toNat out
  have hr : row = [] := by
   have : row.length = 0 := by unfold meas at hM; omega
   exact List.length_eq_zero_iff.1 this
  subst hr
  refine ⟨out, hB.len, hB.lev, Ev.step (fun k => by rw [level_Levels.l0]) ?_⟩
  exact Ev.ite_neg (by simp) (Ev.now _)
 | succ n ih =>
  intro out row hB hM hn
  by_cases hr : row.length = 0
  · have hr2 : row = [] := List.length_eq_zero_iff.1 hr
    subst hr2
    refine ⟨out, hB.len, hB.lev, Ev.step (fun k => by rw [level_Levels.l0]) ?_⟩
    exact Ev.ite_neg (by simp) (Ev.now _)
  · have hv := hB.rowv (rd row 0) (rd_mem (by omega) (by omega))
    obtain ⟨o1, o2, o3, o4, o5⟩ := order_row (net V ls) (v := rd row 0) hv.1.1 (by omega)
    have hsl := starts_len (net V ls)
    obtain ⟨r, r1, r2, r3⟩ := bfs_inner hc hw (meas V.toNat out row) (by omega) (s := s) (fun out' row' b1 b2 => ih out' row' b1 (by omega) (by omega)) (rd row 0) _ 0 out row (by omega) rfl hB (by omega) rfl (Int.le_refl _) (fun j j0 j1 => by omega)
    refine ⟨r, r1, r2, Ev.step (fun k => by rw [level_Levels.l0]) ?_⟩
    have e1 : wrap64 (rd row 0 + 1) = rd row 0 + 1 := wrap_id (by omega) (by omega)
    rw [e1, rd_starts _ hv.1.1 (by omega), rd_starts _ (by omega) (by omega)]
    refine Ev.ite_pos (by omega) ?_
    refine Ev.ite_pos (by omega) ?_
    refine Ev.ite_pos hv.1.1 ?_
    refine Ev.ite_pos (by omega) ?_
    refine Ev.ite_pos (by omega) ?_
    refine Ev.ite_pos (by omega) ?_
    refine Ev.ite_pos o3 ?_
    refine Ev.ite_pos o1 ?_
    refine Ev.ite_pos o2 ?_
    rw [o4]
    exact r3
theorem bfs_start (E : Int → Int → Prop) (hs : 0 ≤ s ∧ s < V) (hV : V ≤ 8) : Bfs V.toNat E s ((List.replicate V.toNat (-1 : Int)).set s.toNat 0) [s] := by
 have hrep : ∀ v : Int, 0 ≤ v → v < (V.toNat : Int) → rd (List.replicate V.toNat (-1 : Int)) v = -1 := by
  intro v v0 v1
  unfold rd
  rw [List.getD_eq_getElem?_getD, List.getElem?_replicate, if_pos (by omega)]
  rfl
 have hrw : ∀ v : Int, 0 ≤ v → v < (V.toNat : Int) → rd ((List.replicate V.toNat (-1 : Int)).set s.toNat 0) v = if v = s then 0 else -1 := by
  intro v v0 v1
  rw [rd_set hs.1 (by rw [List.length_replicate]; omega) v0]
  split
  · rfl
  · exact hrep v v0 v1
 have hss : rd ((List.replicate V.toNat (-1 : Int)).set s.toNat 0) s = 0 := by rw [hrw s hs.1 (by omega), if_pos rfl]
 refine ⟨by simp, hss, ?_, ?_, ?_, ?_, ?_, ?_, ?_, ?_⟩
 · intro v v0 v1
   rw [hrw v v0 v1]; split <;> omega
 · intro v v0 v1 h
   rw [hrw v v0 v1] at h; split at h <;> omega
 · intro v v0 v1 h
   rw [hrw v v0 v1] at h
   by_cases e : v = s
   · exact e
   · rw [if_neg e] at h; omega
 · intro x hx
   rw [List.mem_singleton.1 hx]
   exact ⟨by omega, by rw [hss]; exact Int.le_refl _⟩
 · intro x hx
   rw [List.mem_singleton.1 hx]
   exact Int.le_refl _
 · intro i j i0 ij jl
   have : i = 0 ∧ j = 0 := by simp at jl; omega
   rw [this.1, this.2]
   exact Int.le_refl _
 · intro _ v v0 v1
   show _ ≤ rd _ s + 1
   rw [hrw v v0 v1, hss]; split <;> omega
 · intro v v0 v1 h hn
   rw [hrw v v0 v1] at h
   by_cases e : v = s
   · exact absurd (List.mem_singleton.2 e) hn
   · rw [if_neg e] at h; omega
end
theorem Repeat_one (x : Int) {n : Int} (h1 : 1 ≤ n) (h8 : n ≤ 8) : slices_Repeat_int_int.f [x] n = some (List.replicate n.toNat x) := by
 unfold slices_Repeat_int_int.f
 rw [if_pos ⟨rfl, h1, h8⟩]
 rfl
theorem level_Levels_ev (V : Int) (ls : List S53) (caps f : List Int) (s : Int) :
 ∃ r : List Int, Ev (fun k => level_Levels.f k V ls caps f s) (if CapsOk V ls caps ∧ Win caps f ∧ 0 ≤ s ∧ s < V then (r, 0) else ([], 1000)) ∧
  (CapsOk V ls caps ∧ Win caps f ∧ 0 ≤ s ∧ s < V → r.length = V.toNat ∧ Lev V.toNat (Res (net V ls) (rd caps) (rd f)) s (rd r)) := by
 by_cases h : CapsOk V ls caps ∧ Win caps f ∧ 0 ≤ s ∧ s < V
 · have hv8 := h.1.g.v8
   have hv2 := h.1.g.v2
   have hu := unl_le V.toNat ((List.replicate V.toNat (-1 : Int)).set s.toNat 0)
   obtain ⟨r, r1, r2, r3⟩ := bfs_outer h.1 h.2.1 100 _ _ (bfs_start (V := V) (Res (net V ls) (rd caps) (rd f)) h.2.2 hv8) (by unfold meas; simp only [List.length_cons, List.length_nil]; omega) (by omega)
   refine ⟨r, ?_, fun _ => ⟨r1, r2⟩⟩
   rw [if_pos h]
   unfold level_Levels.f
   have B1 := arcs_Build_ev V ls
   rw [if_pos h.1.g] at B1
   refine Ev.bind B1 ?_
   refine Ev.ite_pos rfl ?_
   refine Ev.bind (stream_Lies_ev V ls caps f) ?_
   refine Ev.ite_pos (dt ⟨h.1, h.2.1⟩) ?_
   refine Ev.call (graph_Has_eq _ _ _) ?_
   rw [dt h.2.2]
   refine Ev.step (fun k => by rw [level_Levels.j0]) ?_
   refine Ev.ite_neg (by simp) ?_
   refine Ev.call (Repeat_one (-1) (by omega) hv8) ?_
   refine Ev.ite_pos h.2.2.1 ?_
   refine Ev.ite_pos (by rw [List.length_replicate]; omega) ?_
   exact r3
 · refine ⟨[], ?_, fun g => absurd g h⟩
   rw [if_neg h]
   have no : ∀ a b c : List Int, Ev (fun k => level_Levels.j0 k caps f s true V ls a b c) (([] : List Int), (1000 : Int)) := by
    intro a b c
    refine Ev.step (fun k => by rw [level_Levels.j0]) ?_
    exact Ev.ite_pos rfl (Ev.now _)
   unfold level_Levels.f
   refine Ev.bind (arcs_Build_ev V ls) ?_
   by_cases hg : GOk V ls
   · rw [if_pos hg]
     refine Ev.ite_pos rfl ?_
     refine Ev.bind (stream_Lies_ev V ls caps f) ?_
     by_cases hl : CapsOk V ls caps ∧ Win caps f
     · refine Ev.ite_pos (dt hl) ?_
       refine Ev.call (graph_Has_eq _ _ _) ?_
       rw [df (fun g => h ⟨hl.1, hl.2, g⟩)]
       exact no _ _ _
     · refine Ev.ite_neg (by simp only [decide_eq_true_eq]; exact hl) ?_
       exact no _ _ _
   · rw [if_neg hg]
     refine Ev.ite_neg (by decide) ?_
     exact no _ _ _
def Trail (N : Net) : Int → List Int → Int → Prop
 | u, [], w => u = w
 | u, l :: p, w => (0 ≤ l ∧ l < (N.m : Int)) ∧ N.a l = u ∧ Trail N (N.b l) p w
theorem gain_upd {N : Net} {f : Int → Int} {l x : Int} (h0 : 0 ≤ l) (h1 : l < (N.m : Int)) (v : Int) :
 gain N (upd f l x) v = gain N f v + (if N.a l = v then x - f l else 0) - (if N.b l = v then x - f l else 0) := by
 unfold gain
 have e : S N.m (fun i => (if N.a i = v then upd f l x i else 0) - (if N.b i = v then upd f l x i else 0)) = S N.m (upd (fun i => (if N.a i = v then f i else 0) - (if N.b i = v then f i else 0)) l ((if N.a l = v then x else 0) - (if N.b l = v then x else 0))) := by
  refine S_congr (fun i _ _ => ?_)
  unfold upd
  by_cases c : i = l
  · subst c; simp
  · simp [c]
 rw [e, S_upd h0 h1]
 by_cases c1 : N.a l = v <;> by_cases c2 : N.b l = v <;> simp [c1, c2] <;> omega
def lessAll (f : Int → Int) (y : Int) : List Int → (Int → Int)
 | [] => f
 | l :: p => lessAll (upd f l (f l - y)) y p
structure St (N : Net) (L : Int → Int) (k : Int) : Prop where
 arc : N.arc k
 low : 0 ≤ L (tail N k)
 up : L (head N k) = L (tail N k) + 1
def Open (N : Net) (c L f : Int → Int) (k : Int) : Prop := St N L k ∧ 0 < room c f k
def ATr (N : Net) (P : Int → Prop) : Int → List Int → Int → Prop
 | v, [], w => v = w
 | v, k :: p, w => P k ∧ tail N k = v ∧ ATr N P (head N k) p w
def Goes (N : Net) (P : Int → Prop) (v w : Int) : Prop := ∃ p, ATr N P v p w
theorem ATr.mono {N : Net} {P Q : Int → Prop} {p : List Int} (e : ∀ k, P k → Q k) : ∀ {v w : Int}, ATr N P v p w → ATr N Q v p w := by
 induction p with
 | nil => intro v w h; exact h
 | cons k p ih => intro v w h; exact ⟨e k h.1, h.2.1, ih h.2.2⟩
theorem Goes.mono {N : Net} {P Q : Int → Prop} {v w : Int} (e : ∀ k, P k → Q k) (h : Goes N P v w) : Goes N Q v w := by
 obtain ⟨p, hp⟩ := h
 exact ⟨p, hp.mono e⟩
theorem ATr.app {N : Net} {P : Int → Prop} {p q : List Int} : ∀ {u v w : Int}, ATr N P u p v → ATr N P v q w → ATr N P u (p ++ q) w := by
 induction p with
 | nil => intro u v w h g; cases h; exact g
 | cons l p ih => intro u v w h g; exact ⟨h.1, h.2.1, ih h.2.2 g⟩
theorem ATr.split {N : Net} {P : Int → Prop} {p q : List Int} : ∀ {u w : Int}, ATr N P u (p ++ q) w → ∃ v, ATr N P u p v ∧ ATr N P v q w := by
 induction p with
 | nil => intro u w h; exact ⟨u, rfl, h⟩
 | cons l p ih =>
  intro u w h
  obtain ⟨v, h1, h2⟩ := ih h.2.2
  exact ⟨v, ⟨h.1, h.2.1, h1⟩, h2⟩
theorem ATr.mem {N : Net} {P : Int → Prop} {p : List Int} : ∀ {u w : Int}, ATr N P u p w → ∀ k ∈ p, P k := by
 induction p with
 | nil => intro u w h l hl; cases hl
 | cons k p ih =>
  intro u w h l hl
  rcases List.mem_cons.1 hl with e | hl
  · rw [e]; exact h.1
  · exact ih h.2.2 l hl
theorem ATr.level {N : Net} {L : Int → Int} {P : Int → Prop} (hP : ∀ k, P k → St N L k) {p : List Int} : ∀ {v w : Int}, ATr N P v p w → L w = L v + p.length := by
 induction p with
 | nil => intro v w h; cases h; simp
 | cons k p ih =>
  intro v w h
  have h1 := (hP k h.1).up
  have h2 := ih h.2.2
  rw [h.2.1] at h1
  rw [List.length_cons]
  omega
theorem ATr.above {N : Net} {L : Int → Int} {P : Int → Prop} (hP : ∀ k, P k → St N L k) {p : List Int} : ∀ {v w : Int}, ATr N P v p w → ∀ k ∈ p, L v ≤ L (tail N k) := by
 induction p with
 | nil => intro v w h k hk; cases hk
 | cons j p ih =>
  intro v w h k hk
  rcases List.mem_cons.1 hk with e | hk
  · rw [e, h.2.1]; exact Int.le_refl _
  · have h1 := (hP j h.1).up
    have h2 := ih h.2.2 k hk
    rw [h.2.1] at h1
    omega
theorem ATr.nodup {N : Net} {L : Int → Int} {P : Int → Prop} (hP : ∀ k, P k → St N L k) {p : List Int} : ∀ {v w : Int}, ATr N P v p w → p.Nodup := by
 induction p with
 | nil => intro v w h; exact List.nodup_nil
 | cons j p ih =>
  intro v w h
  rw [List.nodup_cons]
  refine ⟨fun hj => ?_, ih h.2.2⟩
  have h1 := (hP j h.1).up
  have h2 := h.2.2.above hP j hj
  omega
def pushF (f : Int → Int) (y k : Int) : Int → Int := upd f (k / 2) (f (k / 2) + (if k % 2 = 1 then -y else y))
def pushAll (f : Int → Int) (y : Int) : List Int → (Int → Int)
 | [] => f
 | k :: p => pushAll (pushF f y k) y p
theorem gain_pushF {N : Net} {f : Int → Int} {y k : Int} (h : N.arc k) (v : Int) : gain N (pushF f y k) v = gain N f v + (if tail N k = v then y else 0) - (if head N k = v then y else 0) := by
 unfold pushF
 have hk := h
 unfold Net.arc at hk
 rw [gain_upd (by omega) (by omega)]
 unfold tail head
 by_cases o : k % 2 = 1
 · simp only [o, if_true]
   by_cases c1 : N.a (k / 2) = v <;> by_cases c2 : N.b (k / 2) = v <;> simp [c1, c2] <;> omega
 · simp only [o, if_false]
   by_cases c1 : N.a (k / 2) = v <;> by_cases c2 : N.b (k / 2) = v <;> simp [c1, c2] <;> omega
theorem gain_pushAll {N : Net} {y : Int} {P : Int → Prop} (hP : ∀ k, P k → N.arc k) (p : List Int) : ∀ (f : Int → Int) {u w : Int}, ATr N P u p w → ∀ v : Int,
 gain N (pushAll f y p) v = gain N f v + (if u = v then y else 0) - (if w = v then y else 0) := by
 induction p with
 | nil =>
  intro f u w h v
  cases h
  show gain N f v = _
  omega
 | cons k p ih =>
  intro f u w h v
  show gain N (pushAll (pushF f y k) y p) v = _
  rw [ih _ h.2.2 v, gain_pushF (hP k h.1) v, h.2.1]
  omega
theorem room_pushF {c f : Int → Int} {y k j : Int} : room c (pushF f y k) j = if j = k then room c f j - y else if j / 2 = k / 2 then room c f j + y else room c f j := by
 unfold room pushF upd
 by_cases e : j = k
 · subst e
   rw [if_pos rfl, if_pos rfl]
   by_cases o : j % 2 = 1
   · simp [o]; omega
   · simp [o]; omega
 · rw [if_neg e]
   by_cases h : j / 2 = k / 2
   · rw [if_pos h, if_pos h]
     by_cases o : j % 2 = 1
     · have o2 : ¬ k % 2 = 1 := by omega
       simp [o, o2, h]
     · have o2 : k % 2 = 1 := by omega
       simp [o, o2, h]; omega
   · rw [if_neg h, if_neg h]
theorem St.pair {N : Net} {L : Int → Int} {j k : Int} (h : St N L j) (g : St N L k) (e : j / 2 = k / 2) : j = k := by
 by_cases o : j % 2 = 1
 · by_cases o2 : k % 2 = 1
   · omega
   · exfalso
     have h1 := h.up
     have h2 := g.up
     unfold head tail at h1 h2
     rw [if_pos o, if_pos o] at h1
     rw [if_neg o2, if_neg o2, ← e] at h2
     omega
 · by_cases o2 : k % 2 = 1
   · exfalso
     have h1 := h.up
     have h2 := g.up
     unfold head tail at h1 h2
     rw [if_neg o, if_neg o] at h1
     rw [if_pos o2, if_pos o2, ← e] at h2
     omega
   · omega
theorem room_pushAll {N : Net} {c L : Int → Int} {y : Int} (p : List Int) : ∀ (f : Int → Int), p.Nodup → (∀ k ∈ p, St N L k) → ∀ {j : Int}, St N L j → room c (pushAll f y p) j = if j ∈ p then room c f j - y else room c f j := by
 induction p with
 | nil => intro f _ _ j hj; simp [pushAll]
 | cons k p ih =>
  intro f hn hs j hj
  have hn2 := List.nodup_cons.1 hn
  show room c (pushAll (pushF f y k) y p) j = _
  rw [ih _ hn2.2 (fun i hi => hs i (List.mem_cons_of_mem _ hi)) hj, room_pushF]
  by_cases e : j = k
  · subst e
    rw [if_neg hn2.1, if_pos rfl, if_pos List.mem_cons_self]
  · rw [if_neg e, if_neg (fun g => e (hj.pair (hs k List.mem_cons_self) g))]
    by_cases m : j ∈ p
    · rw [if_pos m, if_pos (List.mem_cons_of_mem _ m)]
    · rw [if_neg m, if_neg (fun g => by rcases List.mem_cons.1 g with g | g; exact e g; exact m g)]
theorem pushAll_out {y : Int} (p : List Int) : ∀ (f : Int → Int) {i : Int}, (∀ k ∈ p, k / 2 ≠ i) → pushAll f y p i = f i := by
 induction p with
 | nil => intro f i h; rfl
 | cons k p ih =>
  intro f i h
  show pushAll (pushF f y k) y p i = _
  rw [ih _ (fun j hj => h j (List.mem_cons_of_mem _ hj))]
  unfold pushF upd
  rw [if_neg (fun e => h k List.mem_cons_self e.symm)]
def Later (N : Net) (c L f g : Int → Int) : Prop := ∀ k, St N L k → room c g k ≤ room c f k
theorem Later.open_ {N : Net} {c L f g : Int → Int} (a : Later N c L f g) {k : Int} (h : Open N c L g k) : Open N c L f k := ⟨h.1, by have := a k h.1; have := h.2; omega⟩
def Useful (N : Net) (c L f : Int → Int) (t k : Int) : Prop := Open N c L f k ∧ Goes N (Open N c L f) (head N k) t
theorem Later.useful {N : Net} {c L f g : Int → Int} (a : Later N c L f g) {t k : Int} (h : Useful N c L g t k) : Useful N c L f t k := ⟨a.open_ h.1, h.2.mono (fun _ => a.open_)⟩
theorem goes_first {N : Net} {c L f : Int → Int} {v t : Int} (h : Goes N (Open N c L f) v t) (ne : v ≠ t) : ∃ k, tail N k = v ∧ Useful N c L f t k := by
 obtain ⟨p, hp⟩ := h
 cases p with
 | nil => exact absurd hp ne
 | cons k p => exact ⟨k, hp.2.1, hp.1, p, hp.2.2⟩
noncomputable def opens (N : Net) (c L f : Int → Int) : Int := cnt (2 * N.m) (fun k => decide (Open N c L f k))
theorem push_way {N : Net} {c L f : Int → Int} {s t y : Int} {p : List Int} (h : ATr N (Open N c L f) s p t) (y0 : 0 < y) (hy : ∀ k ∈ p, y ≤ room c f k) :
 Later N c L f (pushAll f y p) ∧ (∀ v : Int, gain N (pushAll f y p) v = gain N f v + (if s = v then y else 0) - (if t = v then y else 0)) ∧
 ((∃ k ∈ p, room c f k = y) → opens N c L (pushAll f y p) + 1 ≤ opens N c L f) := by
 have hst : ∀ k ∈ p, St N L k := fun k hk => (h.mem k hk).1
 have hn := h.nodup (L := L) (fun k hk => hk.1)
 have hr : ∀ {j : Int}, St N L j → room c (pushAll f y p) j = if j ∈ p then room c f j - y else room c f j := fun hj => room_pushAll p f hn hst hj
 refine ⟨fun k hk => ?_, fun v => gain_pushAll (fun k hk => hk.1.arc) p f h v, ?_⟩
 · rw [hr hk]; split <;> omega
 · rintro ⟨k, hk, e⟩
   have ha := (hst k hk).arc
   unfold Net.arc at ha
   unfold opens
   refine cnt_lt (fun j j0 j1 hj => ?_) ha.1 (by omega) ?_ (dt (h.mem k hk))
   · have hj2 : Open N c L (pushAll f y p) j := of_decide_eq_true hj
     refine dt ⟨hj2.1, ?_⟩
     have := hj2.2
     rw [hr hj2.1] at this
     split at this <;> omega
   · refine df (fun g => ?_)
     have := g.2
     rw [hr (hst k hk), if_pos hk] at this
     omega
theorem push_within {N : Net} {c L f : Int → Int} {s t y : Int} {p : List Int} (h : ATr N (Open N c L f) s p t) (y0 : 0 ≤ y) (hy : ∀ k ∈ p, y ≤ room c f k) (hw : within N.m c f) : within N.m c (pushAll f y p) := by
 have hst : ∀ k ∈ p, St N L k := fun k hk => (h.mem k hk).1
 have hn := h.nodup (L := L) (fun k hk => hk.1)
 intro i i0 i1
 have h0 := hw i i0 i1
 by_cases m : ∃ k ∈ p, k / 2 = i
 · obtain ⟨k, hk, e⟩ := m
   have h1 := room_pushAll (c := c) (y := y) p f hn hst (hst k hk)
   rw [if_pos hk] at h1
   have h2 := hy k hk
   unfold room at h1 h2
   rw [e] at h1 h2
   by_cases o : k % 2 = 1
   · rw [if_pos o, if_pos o] at h1
     rw [if_pos o] at h2
     omega
   · rw [if_neg o, if_neg o] at h1
     rw [if_neg o] at h2
     omega
 · rw [pushAll_out p f (fun k hk e => m ⟨k, hk, e⟩)]
   exact h0
theorem push_over {N : Net} {c L f : Int → Int} {s t y : Int} {p : List Int} (h : ATr N (Open N c L f) s p t) (y0 : 0 ≤ y) (i : Int) :
 (f i < pushAll f y p i → St N L (2 * i)) ∧ (pushAll f y p i < f i → St N L (2 * i + 1)) := by
 have hst : ∀ k ∈ p, St N L k := fun k hk => (h.mem k hk).1
 have hn := h.nodup (L := L) (fun k hk => hk.1)
 by_cases m : ∃ k ∈ p, k / 2 = i
 · obtain ⟨k, hk, e⟩ := m
   have h1 := room_pushAll (c := c) (y := y) p f hn hst (hst k hk)
   rw [if_pos hk] at h1
   unfold room at h1
   rw [e] at h1
   by_cases o : k % 2 = 1
   · rw [if_pos o, if_pos o] at h1
     exact ⟨fun g => by omega, fun _ => by rw [show 2 * i + 1 = k by omega]; exact hst k hk⟩
   · rw [if_neg o, if_neg o] at h1
     exact ⟨fun _ => by rw [show 2 * i = k by omega]; exact hst k hk, fun g => by omega⟩
 · rw [pushAll_out p f (fun k hk e => m ⟨k, hk, e⟩)]
   exact ⟨fun g => by omega, fun g => by omega⟩
theorem rd_cut {xs : List Int} {a b : Nat} {i : Int} (h0 : 0 ≤ i) (h1 : (a : Int) + i < (b : Int)) : rd ((xs.take b).drop a) i = rd xs ((a : Int) + i) := by
 unfold rd
 rw [List.getD_eq_getElem?_getD, List.getD_eq_getElem?_getD, List.getElem?_drop, List.getElem?_take_of_lt (by omega)]
 congr 2
 omega
theorem order_at {N : Net} {v j : Int} (v0 : 0 ≤ v) (v1 : v < (N.V : Int)) (j0 : startAt N v ≤ j) (j1 : j < startAt N (v + 1)) :
 N.arc (rd (order N) j) ∧ tail N (rd (order N) j) = v ∧ 0 ≤ j ∧ j < ((order N).length : Int) := by
 obtain ⟨o1, o2, o3, o4, o5⟩ := order_row N v0 v1
 have e := rd_cut (xs := order N) (a := (startAt N v).toNat) (b := (startAt N (v + 1)).toNat) (i := j - startAt N v) (by omega) (by omega)
 rw [o4, show (((startAt N v).toNat : Nat) : Int) + (j - startAt N v) = j by omega] at e
 have m := rd_mem (xs := rowOf N v) (i := j - startAt N v) (by omega) (by omega)
 rw [e] at m
 have := rowOf_mem.1 m
 exact ⟨this.1, this.2, by omega, by omega⟩
theorem order_has {N : Net} {v k : Int} (v0 : 0 ≤ v) (v1 : v < (N.V : Int)) (ha : N.arc k) (ht : tail N k = v) : ∃ j : Int, startAt N v ≤ j ∧ j < startAt N (v + 1) ∧ rd (order N) j = k := by
 obtain ⟨o1, o2, o3, o4, o5⟩ := order_row N v0 v1
 obtain ⟨i, i0, i1, e⟩ := mem_rd (rowOf_mem.2 ⟨ha, ht⟩ : k ∈ rowOf N v)
 have e2 := rd_cut (xs := order N) (a := (startAt N v).toNat) (b := (startAt N (v + 1)).toNat) (i := i) i0 (by omega)
 rw [o4, e, show (((startAt N v).toNat : Nat) : Int) + i = startAt N v + i by omega] at e2
 exact ⟨startAt N v + i, by omega, by omega, e2.symm⟩
structure Nx (N : Net) (c L f : Int → Int) (t : Int) (nx : List Int) : Prop where
 len : nx.length = N.V + 1
 lo : ∀ v : Int, 0 ≤ v → v < (N.V : Int) → startAt N v ≤ rd nx v ∧ rd nx v ≤ startAt N (v + 1)
 dead : ∀ v : Int, 0 ≤ v → v < (N.V : Int) → ∀ j : Int, startAt N v ≤ j → j < rd nx v → ¬ Useful N c L f t (rd (order N) j)
theorem Nx.start {N : Net} {c L f : Int → Int} {t : Int} : Nx N c L f t (starts N) := by
 refine ⟨starts_len N, fun v v0 v1 => ?_, fun v v0 v1 j j0 j1 => ?_⟩
 · rw [rd_starts N v0 (by omega)]
   exact ⟨Int.le_refl _, (order_row N v0 v1).1⟩
 · rw [rd_starts N v0 (by omega)] at j1
   omega
theorem Nx.later {N : Net} {c L f g : Int → Int} {t : Int} {nx : List Int} (h : Nx N c L f t nx) (l : Later N c L f g) : Nx N c L g t nx :=
 ⟨h.len, h.lo, fun v v0 v1 j j0 j1 u => h.dead v v0 v1 j j0 j1 (l.useful u)⟩
theorem Nx.step {N : Net} {c L f : Int → Int} {t : Int} {nx : List Int} (h : Nx N c L f t nx) {v : Int} (v0 : 0 ≤ v) (v1 : v < (N.V : Int)) (hl : rd nx v < startAt N (v + 1)) (hd : ¬ Useful N c L f t (rd (order N) (rd nx v))) :
 Nx N c L f t (nx.set v.toNat (rd nx v + 1)) := by
 have hlen := h.len
 have hr : ∀ u : Int, 0 ≤ u → rd (nx.set v.toNat (rd nx v + 1)) u = if u = v then rd nx v + 1 else rd nx u := fun u u0 => rd_set v0 (by omega) u0
 refine ⟨by rw [List.length_set]; exact hlen, fun u u0 u1 => ?_, fun u u0 u1 j j0 j1 => ?_⟩
 · have := h.lo u u0 u1
   rw [hr u u0]
   by_cases e : u = v
   · subst e; rw [if_pos rfl]; omega
   · rw [if_neg e]; exact this
 · rw [hr u u0] at j1
   by_cases e : u = v
   · subst e
     rw [if_pos rfl] at j1
     by_cases ej : j = rd nx u
     · rw [ej]; exact hd
     · exact h.dead u u0 u1 j j0 (by omega)
   · rw [if_neg e] at j1
     exact h.dead u u0 u1 j j0 j1
noncomputable def rem (N : Net) (nx : List Int) : Int := S N.V (fun v => startAt N (v + 1) - rd nx v)
theorem rem_nonneg {N : Net} {c L f : Int → Int} {t : Int} {nx : List Int} (h : Nx N c L f t nx) : 0 ≤ rem N nx := S_nonneg (fun v v0 v1 => by have := (h.lo v v0 v1).2; omega)
theorem rem_step {N : Net} {c L f : Int → Int} {t : Int} {nx : List Int} (h : Nx N c L f t nx) {v : Int} (v0 : 0 ≤ v) (v1 : v < (N.V : Int)) : rem N (nx.set v.toNat (rd nx v + 1)) = rem N nx - 1 := by
 have hlen := h.len
 unfold rem
 have e : S N.V (fun u => startAt N (u + 1) - rd (nx.set v.toNat (rd nx v + 1)) u) = S N.V (upd (fun u => startAt N (u + 1) - rd nx u) v (startAt N (v + 1) - rd nx v - 1)) := by
  refine S_congr (fun u u0 u1 => ?_)
  unfold upd
  rw [rd_set v0 (by omega) u0]
  by_cases e : u = v
  · rw [if_pos e, if_pos e, e]; omega
  · rw [if_neg e, if_neg e]
 rw [e, S_upd v0 v1]
 omega
section
variable {V : Int} {ls : List S53} {caps f L : List Int}
theorem steps_eq (hc : CapsOk V ls caps) (hw : Win caps f) (hL : L.length = V.toNat) (hLb : ∀ v : Int, 0 ≤ v → v < V → -1 ≤ rd L v ∧ rd L v < V) (nx : List Int) {v k : Int} (v0 : 0 ≤ v) (v1 : v < V) (ha : (net V ls).arc k) :
 block_search_steps.f (starts (net V ls)) (order (net V ls)) (heads (net V ls)) L caps f nx v k = some (decide (rd L (head (net V ls) k) = rd L v + 1 ∧ 0 < room (rd caps) (rd f) k)) := by
 have hv8 := hc.g.v8
 have hh := head_vert hc.g ha
 have hl : ((heads (net V ls)).length : Int) = 2 * (ls.length : Int) := by rw [heads_len]; show ((2 * ls.length : Nat) : Int) = _; omega
 have ha2 := ha
 unfold Net.arc at ha2
 rw [net_m] at ha2
 have hb := hLb v v0 v1
 unfold block_search_steps.f
 rw [if_pos ha2.1, if_pos (by omega), rd_heads _ ha2.1 (by rw [net_m]; exact ha2.2), if_pos hh.1, if_pos (by omega), if_pos v0, if_pos (by omega), wrap_id (x := rd L v + 1) (by omega) (by omega)]
 by_cases e : rd L (head (net V ls) k) = rd L v + 1
 · rw [if_pos e, left_ok hc hw ha2.1 ha2.2]
   simp only [Option.bind_some]
   congr 1
   by_cases g : 0 < room (rd caps) (rd f) k
   · rw [dt (show room (rd caps) (rd f) k > 0 from g), dt ⟨e, g⟩]
   · rw [df (show ¬ room (rd caps) (rd f) k > 0 from g), df (fun q => g q.2)]
 · rw [if_neg e, df (fun q => e q.1)]
theorem arc_ev (hc : CapsOk V ls caps) (hw : Win caps f) (hL : L.length = V.toNat) (hLb : ∀ v : Int, 0 ≤ v → v < V → -1 ≤ rd L v ∧ rd L v < V) {t v : Int} (v0 : 0 ≤ v) (v1 : v < V) (hv : 0 ≤ rd L v) (d : Nat) :
 ∀ nx : List Int, Nx (net V ls) (rd caps) (rd L) (rd f) t nx → startAt (net V ls) (v + 1) - rd nx v = d →
  ∃ nx2 : List Int, Nx (net V ls) (rd caps) (rd L) (rd f) t nx2 ∧ rem (net V ls) nx2 ≤ rem (net V ls) nx ∧ (∀ u : Int, 0 ≤ u → u ≠ v → rd nx2 u = rd nx u) ∧
   ((Ev (fun k => block_search_arc.l0 k v (starts (net V ls)) (order (net V ls)) (heads (net V ls)) L caps f nx) (rd (order (net V ls)) (rd nx2 v), true, nx2) ∧ rd nx2 v < startAt (net V ls) (v + 1) ∧ Open (net V ls) (rd caps) (rd L) (rd f) (rd (order (net V ls)) (rd nx2 v))) ∨
    (Ev (fun k => block_search_arc.l0 k v (starts (net V ls)) (order (net V ls)) (heads (net V ls)) L caps f nx) (0, false, nx2) ∧ rd nx2 v = startAt (net V ls) (v + 1))) := by
 have hv2 := hc.g.v2
 have hv8 := hc.g.v8
 have hm := hc.g.m16
 have hNV : ((net V ls).V : Int) = V := net_V (by omega)
 have hsl : ((starts (net V ls)).length : Int) = V + 1 := by rw [starts_len]; omega
 have hrs : rd (starts (net V ls)) (v + 1) = startAt (net V ls) (v + 1) := rd_starts _ (by omega) (by omega)
 induction d with
 | zero =>
  intro nx h hd
  have hlen := h.len
  refine ⟨nx, h, Int.le_refl _, fun u _ _ => rfl, .inr ⟨?_, by omega⟩⟩
  refine Ev.step (fun k => by rw [block_search_arc.l0]) ?_
  rw [wrap_id (x := v + 1) (by omega) (by omega), hrs]
  exact Ev.ite_pos v0 (Ev.ite_pos (by omega) (Ev.ite_pos (by omega) (Ev.ite_pos (by omega) (Ev.ite_neg (by omega) (Ev.now _)))))
 | succ d ih =>
  intro nx h hd
  have hlen := h.len
  have hlo := h.lo v v0 (by omega)
  have oa := order_at (N := net V ls) (v := v) (j := rd nx v) v0 (by omega) hlo.1 (by omega)
  have ol : ((order (net V ls)).length : Int) ≤ 256 := by
   have := rowsTo_len (net V ls) (net V ls).V
   unfold order
   rw [net_m] at this
   have e : (net V ls).V ≤ 8 := by omega
   have : (rowsTo (net V ls) (net V ls).V).length ≤ 8 * (2 * 16) := Nat.le_trans this (Nat.mul_le_mul e (by omega))
   omega
  have st := steps_eq hc hw hL hLb nx v0 v1 oa.1
  have head_ : ∀ {r : Int × Bool × List Int}, Ev (fun k => if decide (rd L (head (net V ls) (rd (order (net V ls)) (rd nx v))) = rd L v + 1 ∧ 0 < room (rd caps) (rd f) (rd (order (net V ls)) (rd nx v))) = true then some (rd (order (net V ls)) (rd nx v), true, nx) else block_search_arc.l0 k v (starts (net V ls)) (order (net V ls)) (heads (net V ls)) L caps f (nx.set v.toNat (wrap64 (rd nx v + 1)))) r →
   Ev (fun k => block_search_arc.l0 k v (starts (net V ls)) (order (net V ls)) (heads (net V ls)) L caps f nx) r := by
   intro r R
   refine Ev.step (fun k => by rw [block_search_arc.l0]) ?_
   rw [wrap_id (x := v + 1) (by omega) (by omega), hrs]
   exact Ev.ite_pos v0 (Ev.ite_pos (by omega) (Ev.ite_pos (by omega) (Ev.ite_pos (by omega) (Ev.ite_pos (by omega) (Ev.ite_pos oa.2.2.1 (Ev.ite_pos oa.2.2.2 (Ev.call st R)))))))
  by_cases c : rd L (head (net V ls) (rd (order (net V ls)) (rd nx v))) = rd L v + 1 ∧ 0 < room (rd caps) (rd f) (rd (order (net V ls)) (rd nx v))
  · refine ⟨nx, h, Int.le_refl _, fun u _ _ => rfl, .inl ⟨head_ (Ev.ite_pos (dt c) (Ev.now _)), by omega, ⟨oa.1, by rw [oa.2.1]; exact hv, by rw [oa.2.1]; exact c.1⟩, c.2⟩⟩
  · have nu : ¬ Useful (net V ls) (rd caps) (rd L) (rd f) t (rd (order (net V ls)) (rd nx v)) := by
     rintro ⟨⟨q1, q2⟩, _⟩
     exact c ⟨by have := q1.up; rw [oa.2.1] at this; exact this, q2⟩
    have h2 := h.step v0 (by omega) (by omega) nu
    have hr := rem_step h v0 (by omega)
    obtain ⟨nx2, n1, n2, n3, n4⟩ := ih _ h2 (by rw [rd_set v0 (by omega) v0, if_pos rfl]; omega)
    refine ⟨nx2, n1, by omega, fun u u0 ne => by rw [n3 u u0 ne, rd_set v0 (by omega) u0, if_neg ne], ?_⟩
    rcases n4 with ⟨R, g1, g2⟩ | ⟨R, g1⟩
    · exact .inl ⟨head_ (Ev.ite_neg (by rw [df c]; decide) (Ev.congr (fun k => by rw [wrap_id (x := rd nx v + 1) (by omega) (by omega)]) R)), g1, g2⟩
    · exact .inr ⟨head_ (Ev.ite_neg (by rw [df c]; decide) (Ev.congr (fun k => by rw [wrap_id (x := rd nx v + 1) (by omega) (by omega)]) R)), g1⟩
structure Half11 (N : Net) (c L f : Int → Int) (s last : Int) (nx out : List Int) : Prop where
 tr : ATr N (Open N c L f) s out last
 at_ : ∀ k ∈ out, rd nx (tail N k) < startAt N (tail N k + 1) ∧ rd (order N) (rd nx (tail N k)) = k
theorem been_last (N : Net) {c L f : Int → Int} {s last : Int} {out : List Int} (h : ATr N (Open N c L f) s out last) : rd (s :: out.map (head N)) (out.length : Int) = last := by
 induction out generalizing s with
 | nil => exact h
 | cons k p ih =>
  have := ih h.2.2
  rw [List.length_cons, List.map_cons, show ((p.length + 1 : Nat) : Int) = (p.length : Int) + 1 by omega, rd_succ_cons (by omega)]
  exact this
theorem way_ev (hc : CapsOk V ls caps) (hw : Win caps f) (hL : L.length = V.toNat) (hLb : ∀ v : Int, 0 ≤ v → v < V → -1 ≤ rd L v ∧ rd L v < V) {s t : Int} (s0 : 0 ≤ s ∧ s < V) (hs : rd L s = 0) (ne : s ≠ t) (d : Nat) :
 ∀ (nx out : List Int) (last : Int), Nx (net V ls) (rd caps) (rd L) (rd f) t nx → Half11 (net V ls) (rd caps) (rd L) (rd f) s last nx out → rem (net V ls) nx * (V + 1) + (V - (out.length : Int)) ≤ d →
  ∃ p nx2 : List Int, Ev (fun k => block_search_way.l0 k t out (s :: out.map (head (net V ls))) (starts (net V ls)) (order (net V ls)) (heads (net V ls)) L caps f nx) (p, nx2) ∧ Nx (net V ls) (rd caps) (rd L) (rd f) t nx2 ∧
   ((p = [] ∧ ¬ Goes (net V ls) (Open (net V ls) (rd caps) (rd L) (rd f)) s t) ∨ (p ≠ [] ∧ ATr (net V ls) (Open (net V ls) (rd caps) (rd L) (rd f)) s p t)) := by
 have hv2 := hc.g.v2
 have hv8 := hc.g.v8
 have hm := hc.g.m16
 have hNV : ((net V ls).V : Int) = V := net_V (by omega)
 have hst : ∀ k, Open (net V ls) (rd caps) (rd L) (rd f) k → St (net V ls) (rd L) k := fun k h => h.1
 induction d with
 | zero =>
  intro nx out last hn hh hd
  exfalso
  have h1 := rem_nonneg hn
  have h2 := hh.tr.level hst
  have h3 : 0 ≤ last ∧ last < V := by
   by_cases e : out = []
   · subst e
     have := hh.tr
     cases this
     exact s0
   · obtain ⟨q, k, rfl⟩ := List.eq_nil_or_concat out |>.resolve_left e
     rw [List.concat_eq_append] at hh
     obtain ⟨u, _, g⟩ := hh.tr.split
     rw [← g.2.2]
     have := head_vert hc.g g.1.1.arc
     exact this
  have h4 := hLb last h3.1 h3.2
  have h5 : 0 ≤ rem (net V ls) nx * (V + 1) := Int.mul_nonneg h1 (by omega)
  omega
 | succ d ih =>
  intro nx out last hn hh hd
  have h1 := rem_nonneg hn
  have h2 := hh.tr.level hst
  have lastv : 0 ≤ last ∧ last < V := by
   by_cases e : out = []
   · subst e
     have := hh.tr
     cases this
     exact s0
   · obtain ⟨q, k, rfl⟩ := List.eq_nil_or_concat out |>.resolve_left e
     rw [List.concat_eq_append] at hh
     obtain ⟨u, _, g⟩ := hh.tr.split
     rw [← g.2.2]
     exact head_vert hc.g g.1.1.arc
  have h4 := hLb last lastv.1 lastv.2
  have hbl : (s :: out.map (head (net V ls))).length = out.length + 1 := by rw [List.length_cons, List.length_map]
  have hlast : rd (s :: out.map (head (net V ls))) (out.length : Int) = last := been_last _ hh.tr
  have hidx : wrap64 (((s :: out.map (head (net V ls))).length : Int) - 1) = (out.length : Int) := by rw [hbl, wrap_id (by omega) (by omega)]; omega
  by_cases et : last = t
  · refine ⟨out, nx, ?_, hn, .inr ⟨fun e => ?_, by rw [← et]; exact hh.tr⟩⟩
    · refine Ev.step (fun k => by rw [block_search_way.l0]) ?_
      rw [hidx, hlast]
      exact Ev.ite_pos (by omega) (Ev.ite_pos (by omega) (Ev.ite_pos et (Ev.now _)))
    · subst e
      have := hh.tr
      exact ne (Eq.trans this et)
  · have hlo := hn.lo last lastv.1 (by omega)
    obtain ⟨nx2, n1, n2, n3, n4⟩ := arc_ev hc hw hL hLb (t := t) lastv.1 lastv.2 (by omega) (startAt (net V ls) (last + 1) - rd nx last).toNat nx hn (by omega)
    have apart : ∀ k ∈ out, tail (net V ls) k ≠ last := by
     intro k hk e
     have hop := hh.tr.mem k hk
     have hhd := head_vert hc.g hop.1.arc
     -- its level is below that of the end
     obtain ⟨q, r, rfl⟩ := List.append_of_mem hk
     obtain ⟨u, g1, g2⟩ := hh.tr.split
     have l1 := g1.level hst
     have l2 := g2.2.1
     rw [List.length_append, List.length_cons] at h2
     rw [← l2] at l1
     rw [e] at l1
     omega
    have keep : ∀ k ∈ out, rd nx2 (tail (net V ls) k) < startAt (net V ls) (tail (net V ls) k + 1) ∧ rd (order (net V ls)) (rd nx2 (tail (net V ls) k)) = k := by
     intro k hk
     have hop := hh.tr.mem k hk
     have htl := tail_vert hc.g hop.1.arc
     rw [n3 _ htl.1 (apart k hk)]
     exact hh.at_ k hk
    have hmul : rem (net V ls) nx2 * (V + 1) ≤ rem (net V ls) nx * (V + 1) := Int.mul_le_mul_of_nonneg_right n2 (by omega)
    rcases n4 with ⟨R, g1, g2⟩ | ⟨R, g1⟩
    · -- an arc leads on
      have hn1 := n1.lo last lastv.1 (by omega)
      have oa := order_at (N := net V ls) (v := last) (j := rd nx2 last) lastv.1 (by omega) hn1.1 g1
      have ha2 := oa.1
      unfold Net.arc at ha2
      rw [net_m] at ha2
      have hhd := head_vert hc.g oa.1
      have tr2 : ATr (net V ls) (Open (net V ls) (rd caps) (rd L) (rd f)) s (out ++ [rd (order (net V ls)) (rd nx2 last)]) (head (net V ls) (rd (order (net V ls)) (rd nx2 last))) := hh.tr.app ⟨g2, oa.2.1, rfl⟩
      have half2 : Half11 (net V ls) (rd caps) (rd L) (rd f) s (head (net V ls) (rd (order (net V ls)) (rd nx2 last))) nx2 (out ++ [rd (order (net V ls)) (rd nx2 last)]) := by
       refine ⟨tr2, fun k hk => ?_⟩
       rcases List.mem_append.1 hk with hk | hk
       · exact keep k hk
       · rw [List.mem_singleton.1 hk, oa.2.1]
         exact ⟨g1, rfl⟩
      have hl2 : (heads (net V ls)).length = 2 * ls.length := heads_len _
      obtain ⟨p, nx3, X, x2, x3⟩ := ih nx2 _ _ n1 half2 (by rw [List.length_append, List.length_singleton]; omega)
      refine ⟨p, nx3, ?_, x2, x3⟩
      refine Ev.step (fun k => by rw [block_search_way.l0]) ?_
      rw [hidx, hlast]
      refine Ev.ite_pos (by omega) (Ev.ite_pos (by omega) (Ev.ite_neg et (Ev.bind R (Ev.ite_pos rfl ?_))))
      refine Ev.call rfl (Ev.ite_pos (by show out.length + 1 < 17592186044416; omega) (Ev.ite_pos ha2.1 (Ev.ite_pos (by show rd (order (net V ls)) (rd nx2 last) < ((heads (net V ls)).length : Int); omega) ?_)))
      refine Ev.call rfl (Ev.ite_pos (by show (s :: out.map (head (net V ls))).length + 1 < 17592186044416; omega) ?_)
      have eb : (s :: out.map (head (net V ls))) ++ [rd (heads (net V ls)) (rd (order (net V ls)) (rd nx2 last))] = s :: (out ++ [rd (order (net V ls)) (rd nx2 last)]).map (head (net V ls)) := by
       rw [rd_heads _ ha2.1 (by rw [net_m]; exact ha2.2), List.map_append, List.map_singleton]; rfl
      show Ev (fun k => block_search_way.l0 k t (out ++ [rd (order (net V ls)) (rd nx2 last)]) ((s :: out.map (head (net V ls))) ++ [rd (heads (net V ls)) (rd (order (net V ls)) (rd nx2 last))]) (starts (net V ls)) (order (net V ls)) (heads (net V ls)) L caps f nx2) (p, nx3)
      rw [eb]
      exact X
    · -- none does: back
      have nogo : ¬ Goes (net V ls) (Open (net V ls) (rd caps) (rd L) (rd f)) last t := by
       intro g
       obtain ⟨k, kt, ku⟩ := goes_first g et
       obtain ⟨j, j0, j1, e⟩ := order_has (N := net V ls) lastv.1 (by omega) ku.1.1.arc kt
       refine n1.dead last lastv.1 (by omega) j j0 (by omega) ?_
       rw [e]; exact ku
      by_cases eo : out = []
      · subst eo
        have es : s = last := hh.tr
        refine ⟨[], nx2, ?_, n1, .inl ⟨rfl, by rw [es]; exact nogo⟩⟩
        refine Ev.step (fun k => by rw [block_search_way.l0]) ?_
        rw [hidx, hlast]
        exact Ev.ite_pos (by omega) (Ev.ite_pos (by omega) (Ev.ite_neg et (Ev.bind R (Ev.ite_neg (by show ¬ (false = true); decide) (Ev.ite_pos (by simp) (Ev.now _))))))
      · obtain ⟨q, k, rfl⟩ := List.eq_nil_or_concat out |>.resolve_left eo
        rw [List.concat_eq_append] at hh h2 hbl hlast hidx apart keep hd eo ⊢
        obtain ⟨u, u1, u2⟩ := hh.tr.split
        have hk : k ∈ q ++ [k] := List.mem_append.2 (.inr (by simp))
        have kop := hh.tr.mem k hk
        have ku : tail (net V ls) k = u := u2.2.1
        have kh : head (net V ls) k = last := u2.2.2
        have uv := tail_vert hc.g kop.1.arc
        rw [ku] at uv
        have kk := keep k hk
        rw [ku] at kk
        have dead : ¬ Useful (net V ls) (rd caps) (rd L) (rd f) t (rd (order (net V ls)) (rd nx2 u)) := by
         rw [kk.2]
         rintro ⟨_, g⟩
         rw [kh] at g
         exact nogo g
        have n5 := n1.step uv.1 (by omega) kk.1 dead
        have r5 := rem_step n1 uv.1 (v := u) (by omega)
        have hlen2 := n1.len
        have half2 : Half11 (net V ls) (rd caps) (rd L) (rd f) s u (nx2.set u.toNat (rd nx2 u + 1)) q := by
         refine ⟨u1, fun j hj => ?_⟩
         have jop := u1.mem j hj
         have jt := tail_vert hc.g jop.1.arc
         have jne : tail (net V ls) j ≠ u := by
          intro e
          obtain ⟨a, b, rfl⟩ := List.append_of_mem hj
          obtain ⟨w, g1, g2⟩ := u1.split
          have l1 := g1.level hst
          have l2 := u1.level hst
          have l3 := g2.2.1
          rw [List.length_append, List.length_cons] at l2
          rw [← l3, e] at l1
          omega
         rw [rd_set uv.1 (by omega) jt.1, if_neg jne]
         exact keep j (List.mem_append.2 (.inl hj))
        have hql : (q ++ [k]).length = q.length + 1 := by rw [List.length_append, List.length_singleton]
        have r1 := rem_nonneg n5
        have hmul2 : (rem (net V ls) nx2 - 1) * (V + 1) = rem (net V ls) nx2 * (V + 1) - (V + 1) := by rw [Int.sub_mul, Int.one_mul]
        obtain ⟨p, nx3, X, x2, x3⟩ := ih _ q u n5 half2 (by rw [r5, hmul2]; omega)
        refine ⟨p, nx3, ?_, x2, x3⟩
        have hq : (q ++ [k]).take q.length = q := List.take_left' rfl
        have hb : (s :: (q ++ [k]).map (head (net V ls))).take (q.length + 1) = s :: q.map (head (net V ls)) := by
         rw [List.take_succ_cons, List.map_append, List.take_left' (by rw [List.length_map])]
        have ql : rd (s :: q.map (head (net V ls))) (q.length : Int) = u := been_last _ u1
        have hb2 : (s :: q.map (head (net V ls))).length = q.length + 1 := by rw [List.length_cons, List.length_map]
        have nlo := n1.lo u uv.1 (by omega)
        have s256 : startAt (net V ls) (u + 1) ≤ 256 := by
         have o := (order_row (net V ls) uv.1 (by omega)).2.1
         have := rowsTo_len (net V ls) (net V ls).V
         unfold order at o
         rw [net_m] at this
         have e : (net V ls).V ≤ 8 := by omega
         have : (rowsTo (net V ls) (net V ls).V).length ≤ 8 * (2 * 16) := Nat.le_trans this (Nat.mul_le_mul e (by omega))
         omega
        have s0_ : 0 ≤ startAt (net V ls) u := (order_row (net V ls) uv.1 (by omega)).2.2.1
        refine Ev.step (fun k => by rw [block_search_way.l0]) ?_
        rw [hidx, hlast]
        refine Ev.ite_pos (by omega) (Ev.ite_pos (by omega) (Ev.ite_neg et (Ev.bind R (Ev.ite_neg (by show ¬ (false = true); decide) (Ev.ite_neg (by omega) ?_)))))
        rw [wrap_id (x := ((q ++ [k]).length : Int) - 1) (by omega) (by omega), show ((q ++ [k]).length : Int) - 1 = (q.length : Int) by omega]
        refine Ev.ite_pos (by omega) (Ev.ite_pos (by omega) (Ev.ite_pos (by omega) ?_))
        rw [Int.toNat_natCast, Int.toNat_natCast, hq, hql, hb]
        refine Ev.call rfl ?_
        rw [hb2, wrap_id (x := ((q.length + 1 : Nat) : Int) - 1) (by omega) (by omega), show ((q.length + 1 : Nat) : Int) - 1 = (q.length : Int) by omega, ql]
        refine Ev.ite_pos (by omega) (Ev.ite_pos (by omega) (Ev.ite_pos uv.1 (Ev.ite_pos (by have := hn.len; omega) ?_)))
        exact Ev.congr (fun k => by rw [wrap_id (x := rd nx2 u + 1) (by omega) (by omega)]) X
theorem search_ev (hc : CapsOk V ls caps) (hw : Win caps f) (hL : L.length = V.toNat) (hLb : ∀ v : Int, 0 ≤ v → v < V → -1 ≤ rd L v ∧ rd L v < V) {s t : Int} (s0 : 0 ≤ s ∧ s < V) (hs : rd L s = 0) (ne : s ≠ t) {nx : List Int} (hn : Nx (net V ls) (rd caps) (rd L) (rd f) t nx) :
 ∃ p nx2 : List Int, Ev (fun k => block_search_way.f k (starts (net V ls)) (order (net V ls)) (heads (net V ls)) L caps f nx s t) (p, nx2) ∧ Nx (net V ls) (rd caps) (rd L) (rd f) t nx2 ∧
  ((p = [] ∧ ¬ Goes (net V ls) (Open (net V ls) (rd caps) (rd L) (rd f)) s t) ∨ (p ≠ [] ∧ ATr (net V ls) (Open (net V ls) (rd caps) (rd L) (rd f)) s p t)) :=
 way_ev hc hw hL hLb s0 hs ne (rem (net V ls) nx * (V + 1) + V).toNat nx [] s hn ⟨rfl, fun k hk => by cases hk⟩ (by
  have h1 := rem_nonneg hn
  have hv2 := hc.g.v2
  have : 0 ≤ rem (net V ls) nx * (V + 1) := Int.mul_nonneg h1 (by omega)
  show rem (net V ls) nx * (V + 1) + (V - ((0 : Nat) : Int)) ≤ _
  omega)
end
structure Blk (N : Net) (c L f g : Int → Int) (s t most n : Int) : Prop where
 win : within N.m c g
 rate : 0 ≤ n ∧ n ≤ most
 gains : ∀ v : Int, gain N g v = gain N f v + (if s = v then n else 0) - (if t = v then n else 0)
 over : ∀ i : Int, 0 ≤ i → i < (N.m : Int) → (f i < g i → St N L (2 * i)) ∧ (g i < f i → St N L (2 * i + 1))
 full : n = most ∨ ¬ Goes N (Open N c L g) s t
theorem Blk.flow {N : Net} {c L f g : Int → Int} {s t most n : Int} (h : Blk N c L f g s t most n) (hf : Flow N c f s t) : Flow N c g s t := by
 refine ⟨h.win, hf.vs, hf.vt, hf.ne, ?_, fun v hv a b => ?_⟩
 · have := h.gains s
   have := h.rate
   have := hf.pos
   rw [if_pos rfl, if_neg (fun e => hf.ne e.symm)] at *
   omega
 · rw [h.gains v, if_neg (fun e => a e.symm), if_neg (fun e => b e.symm), hf.keep v hv a b]
   rfl
theorem Blk.gain_src {N : Net} {c L f g : Int → Int} {s t most n : Int} (h : Blk N c L f g s t most n) (hf : Flow N c f s t) : gain N g s = gain N f s + n := by
 rw [h.gains s, if_pos rfl, if_neg (fun e => hf.ne e.symm)]
 omega
theorem pushAll_near {y : Int} (p : List Int) : ∀ {f g : Int → Int}, (∀ i : Int, 0 ≤ i → f i = g i) → ∀ i : Int, 0 ≤ i → pushAll f y p i = pushAll g y p i := by
 induction p with
 | nil => intro f g h i i0; exact h i i0
 | cons k p ih =>
  intro f g h i i0
  refine ih (fun j j0 => ?_) i i0
  unfold pushF upd
  by_cases e : j = k / 2
  · rw [if_pos e, if_pos e, ← e, h j j0]
  · rw [if_neg e, if_neg e, h j j0]
theorem room_near {c f g : Int → Int} (h : ∀ i : Int, 0 ≤ i → f i = g i) {k : Int} (k0 : 0 ≤ k) : room c f k = room c g k := by
 unfold room
 rw [h (k / 2) (by omega)]
structure IsLeast (z : Int) (xs : List Int) : Prop where
 mem : z ∈ xs
 le : ∀ y ∈ xs, z ≤ y
theorem IsLeast.next {x z : Int} {xs : List Int} {i : Nat} (h : IsLeast z (x :: xs.take i)) (hl : i < xs.length) : IsLeast (mn z (rd xs (i : Int))) (x :: xs.take (i + 1)) := by
 have e : rd xs (i : Int) = xs[i] := by
  unfold rd
  rw [Int.toNat_natCast, List.getD_eq_getElem?_getD, List.getElem?_eq_getElem hl]; rfl
 rw [List.take_succ_eq_append_getElem hl, ← e]
 have hmn : (mn z (rd xs (i : Int)) = z ∧ z ≤ rd xs (i : Int)) ∨ (mn z (rd xs (i : Int)) = rd xs (i : Int) ∧ rd xs (i : Int) ≤ z) := by unfold mn; omega
 constructor
 · rcases hmn with ⟨g, _⟩ | ⟨g, _⟩
   · rw [g]
     rcases List.mem_cons.1 h.mem with q | q
     · rw [q]; exact List.mem_cons_self
     · exact List.mem_cons_of_mem _ (List.mem_append.2 (.inl q))
   · rw [g]; exact List.mem_cons_of_mem _ (List.mem_append.2 (.inr (by simp)))
 · intro y hy
   rcases List.mem_cons.1 hy with q | q
   · have := h.le y (by rw [q]; exact List.mem_cons_self)
     omega
   · rcases List.mem_append.1 q with q | q
     · have := h.le y (List.mem_cons_of_mem _ q)
       omega
     · rw [List.mem_singleton.1 q]; omega
theorem least_loop (xs : List Int) (hx : xs.length ≤ 17592186044416) (x : Int) (d : Nat) : ∀ (i : Nat) (z : Int), i ≤ xs.length → xs.length - i = d → IsLeast z (x :: xs.take i) →
 ∃ r : Int, Ev (fun k => rate_Least.l0 k z xs (xs.length : Int) (i : Int)) r ∧ IsLeast r (x :: xs) := by
 induction d with
 | zero =>
  intro i z hi hd h
  obtain rfl : i = xs.length := by omega
  rw [List.take_length] at h
  refine ⟨z, ?_, h⟩
  refine Ev.step (fun k => by rw [rate_Least.l0]) ?_
  exact Ev.ite_neg (by omega) (Ev.now _)
 | succ d ih =>
  intro i z hi hd h
  obtain ⟨r, X, g⟩ := ih (i + 1) _ (by omega) (by omega) (h.next (by omega))
  refine ⟨r, ?_, g⟩
  refine Ev.step (fun k => by rw [rate_Least.l0]) ?_
  refine Ev.ite_pos (by omega) (Ev.ite_pos (by omega) (Ev.ite_pos (by omega) ?_))
  exact Ev.congr (fun k => by rw [wrap_succ (by omega)]) X
theorem Least_ev (x : Int) (xs : List Int) (hx : xs.length ≤ 17592186044416) : ∃ r : Int, Ev (fun k => rate_Least.f k x xs) r ∧ IsLeast r (x :: xs) :=
 least_loop xs hx x xs.length 0 x (by omega) (by omega) ⟨by simp, fun y hy => by simp at hy; omega⟩
theorem mvL_way {N : Net} {L : Int → Int} {caps : List Int} {y : Int} (p : List Int) : ∀ f : List Int, f.length = N.m → p.Nodup → (∀ k ∈ p, St N L k) → (∀ k ∈ p, y ≤ room (rd caps) (rd f) k) →
 ∃ g, mvL caps y f p = some g ∧ g.length = f.length ∧ ∀ i : Int, 0 ≤ i → rd g i = pushAll (rd f) y p i := by
 induction p with
 | nil => intro f _ _ _ _; exact ⟨f, rfl, rfl, fun i _ => rfl⟩
 | cons k p ih =>
  intro f hl hn hs hr
  have hn2 := List.nodup_cons.1 hn
  have hk := hs k List.mem_cons_self
  have ka := hk.arc
  unfold Net.arc at ka
  have near : ∀ i : Int, 0 ≤ i → rd (pushA f y k) i = pushF (rd f) y k i := fun i i0 => by
   rw [rd_pushA ka.1 (by omega) i0]
   unfold pushF upd
   by_cases e : i = k / 2
   · rw [if_pos e, if_pos e, e]
   · rw [if_neg e, if_neg e]
  obtain ⟨g, g1, g2, g3⟩ := ih (pushA f y k) (by rw [pushA_len]; exact hl) hn2.2 (fun j hj => hs j (List.mem_cons_of_mem _ hj)) (fun j hj => by
   have hj2 := hs j (List.mem_cons_of_mem _ hj)
   have ja := hj2.arc
   unfold Net.arc at ja
   rw [room_near near ja.1, room_pushF, if_neg (fun e => hn2.1 (by rw [← e]; exact hj)), if_neg (fun e => hn2.1 (by rw [← hj2.pair hk e]; exact hj))]
   exact hr j (List.mem_cons_of_mem _ hj))
  refine ⟨g, ?_, by rw [g2, pushA_len], fun i i0 => ?_⟩
  · show (if room (rd caps) (rd f) k < y then none else mvL caps y (pushA f y k) p) = some g
    rw [if_neg (by have := hr k List.mem_cons_self; omega)]
    exact g1
  · rw [g3 i i0]
    exact pushAll_near p near i i0
section
variable {V : Int} {ls : List S53} {caps : List Int}
theorem rooms_loop (hc : CapsOk V ls caps) (st od hd L nx : List Int) {f : List Int} (hw : Win caps f) (p : List Int) (hp : ∀ k ∈ p, 0 ≤ k ∧ k < 2 * (ls.length : Int)) (hl : p.length ≤ 64) (d : Nat) : ∀ i : Nat, i ≤ p.length → p.length - i = d →
 Ev (fun k => block_search_rooms.l0 k ((p.take i).map (room (rd caps) (rd f))) p (p.length : Int) (i : Int) st od hd L caps f nx) (p.map (room (rd caps) (rd f))) := by
 induction d with
 | zero =>
  intro i hi hd2
  obtain rfl : i = p.length := by omega
  rw [List.take_length]
  refine Ev.step (fun k => by rw [block_search_rooms.l0]) ?_
  exact Ev.ite_neg (by omega) (Ev.now _)
 | succ d ih =>
  intro i hi hd2
  have hil : i < p.length := by omega
  have hm := hp (rd p (i : Int)) (rd_mem (by omega) (by omega))
  refine Ev.step (fun k => by rw [block_search_rooms.l0]) ?_
  refine Ev.ite_pos (by omega) (Ev.ite_pos (by omega) (Ev.ite_pos (by omega) ?_))
  refine Ev.call (left_ok hc hw hm.1 hm.2) ?_
  have e : (p.take i).map (room (rd caps) (rd f)) ++ [room (rd caps) (rd f) (rd p (i : Int))] = (p.take (i + 1)).map (room (rd caps) (rd f)) := by
   have e1 : rd p (i : Int) = p[i] := by
    unfold rd
    rw [Int.toNat_natCast, List.getD_eq_getElem?_getD, List.getElem?_eq_getElem hil]; rfl
   rw [List.take_succ_eq_append_getElem hil, List.map_append, e1, List.map_singleton]
  refine Ev.ite_pos (by rw [List.length_map, List.length_take]; omega) ?_
  rw [e]
  exact Ev.congr (fun k => by rw [wrap_succ (by omega)]) (ih (i + 1) (by omega) (by omega))
structure Mid (V : Int) (ls : List S53) (caps L f0 : List Int) (s t most : Int) (f nx : List Int) (n : Int) : Prop where
 win : Win caps f
 nx : Nx (net V ls) (rd caps) (rd L) (rd f) t nx
 rate : 0 ≤ n ∧ n ≤ most
 gains : ∀ v : Int, gain (net V ls) (rd f) v = gain (net V ls) (rd f0) v + (if s = v then n else 0) - (if t = v then n else 0)
 over : ∀ i : Int, 0 ≤ i → i < (ls.length : Int) → (rd f0 i < rd f i → St (net V ls) (rd L) (2 * i)) ∧ (rd f i < rd f0 i → St (net V ls) (rd L) (2 * i + 1))
 none : n = 0 → f = f0
theorem Mid.blk {L f0 : List Int} {s t most : Int} {f nx : List Int} {n : Int} (hc : CapsOk V ls caps) (h : Mid V ls caps L f0 s t most f nx n) (hf : n = most ∨ ¬ Goes (net V ls) (Open (net V ls) (rd caps) (rd L) (rd f)) s t) :
 Blk (net V ls) (rd caps) (rd L) (rd f0) (rd f) s t most n :=
 ⟨fun i a b => h.win.le i a (by rw [h.win.len, hc.len]; exact b), h.rate, h.gains, h.over, hf⟩
theorem block_go (hc : CapsOk V ls caps) {L f0 : List Int} (hL : L.length = V.toNat) (hLb : ∀ v : Int, 0 ≤ v → v < V → -1 ≤ rd L v ∧ rd L v < V) {s t most : Int} (s0 : 0 ≤ s ∧ s < V) (t0 : 0 ≤ t ∧ t < V) (hs : rd L s = 0) (ne : s ≠ t) (hmost : most ≤ 4611686018427387904) (d : Nat) :
 ∀ (f nx : List Int) (n : Int), Mid V ls caps L f0 s t most f nx n → opens (net V ls) (rd caps) (rd L) (rd f) < (d : Int) →
  ∃ (f2 : List Int) (n2 : Int), Ev (fun k => block_Block.l0 k caps s t most nx L f n V ls (starts (net V ls)) (order (net V ls)) (heads (net V ls))) (f2, n2, 0) ∧ Blk (net V ls) (rd caps) (rd L) (rd f0) (rd f2) s t most n2 ∧ Win caps f2 ∧ (n2 = 0 → f2 = f0) := by
 have hv8 := hc.g.v8
 have hv2 := hc.g.v2
 have hm16 := hc.g.m16
 induction d with
 | zero =>
  intro f nx n h ho
  exfalso
  have : 0 ≤ opens (net V ls) (rd caps) (rd L) (rd f) := by unfold opens; exact cnt_nonneg _ _
  omega
 | succ d ih =>
  intro f nx n h ho
  by_cases hn : n < most
  · obtain ⟨p, nx2, E1, n1, alt⟩ := search_ev hc h.win hL hLb s0 hs ne h.nx
    rcases alt with ⟨rfl, nogo⟩ | ⟨pne, tr⟩
    · refine ⟨f, n, ?_, h.blk hc (.inr nogo), h.win, h.none⟩
      refine Ev.step (fun k => by rw [block_Block.l0]) ?_
      exact Ev.ite_pos hn (Ev.bind E1 (Ev.ite_pos rfl (Ev.now _)))
    · have hst : ∀ k, Open (net V ls) (rd caps) (rd L) (rd f) k → St (net V ls) (rd L) k := fun k q => q.1
      have lev := tr.level hst
      have hLt := hLb t t0.1 t0.2
      have plen : p.length ≤ 8 := by omega
      have parc : ∀ k ∈ p, 0 ≤ k ∧ k < 2 * (ls.length : Int) := fun k hk => by
       have := (tr.mem k hk).1.arc
       unfold Net.arc at this
       rw [net_m] at this
       exact this
      have E2 : Ev (fun k => block_search_rooms.f k (starts (net V ls)) (order (net V ls)) (heads (net V ls)) L caps f nx2 p) (p.map (room (rd caps) (rd f))) := by
       unfold block_search_rooms.f
       exact rooms_loop hc _ _ _ L nx2 h.win p parc (by omega) p.length 0 (by omega) (by omega)
      obtain ⟨b, E3, lst⟩ := Least_ev (most - n) (p.map (room (rd caps) (rd f))) (by rw [List.length_map]; omega)
      have hb1 : b ≤ most - n := lst.le _ List.mem_cons_self
      have hb2 : ∀ k ∈ p, b ≤ room (rd caps) (rd f) k := fun k hk => lst.le _ (List.mem_cons_of_mem _ (List.mem_map_of_mem hk))
      have hb0 : 0 < b := by
       rcases List.mem_cons.1 lst.mem with e | e
       · omega
       · obtain ⟨k, hk, e2⟩ := List.mem_map.1 e
         have := (tr.mem k hk).2
         omega
      have hr := h.rate
      have fl : f.length = (net V ls).m := by rw [h.win.len, hc.len]; rfl
      have nd := tr.nodup hst
      obtain ⟨g, g1, g2, g3⟩ := mvL_way (L := rd L) p f fl nd (fun k hk => (tr.mem k hk).1) hb2
      have pw := push_way tr hb0 hb2
      have pin := push_within tr (by omega) hb2 (fun i a c => h.win.le i a (by rw [fl]; exact c))
      have wing : Win caps g := ⟨by rw [g2, h.win.len], fun i a c => by
       rw [g2, fl] at c
       have := pin i a c
       rw [g3 i a]
       exact this⟩
      have mok : MoveOk V ls caps f b p := ⟨hc, h.win, ⟨by omega, by omega⟩, by omega, fun i a c => parc _ (rd_mem a c)⟩
      have E4 := stream_Move_ev V ls caps f b p
      unfold moveR at E4
      rw [if_pos mok, g1] at E4
      have lat : Later (net V ls) (rd caps) (rd L) (rd f) (rd g) := fun k hk => by
       have ka := hk.arc
       unfold Net.arc at ka
       rw [room_near g3 ka.1]
       exact pw.1 k hk
      have mid : Mid V ls caps L f0 s t most g nx2 (n + b) := by
       refine ⟨wing, n1.later lat, ⟨by omega, by omega⟩, fun v => ?_, fun i a c => ?_, fun e => by omega⟩
       · rw [gain_congr (f := rd g) (g := pushAll (rd f) b p) (fun i a c => g3 i a) v, pw.2.1 v, h.gains v]
         by_cases e1 : s = v
         · rw [if_pos e1, if_pos e1, if_pos e1]
           by_cases e2 : t = v
           · rw [if_pos e2, if_pos e2, if_pos e2]; omega
           · rw [if_neg e2, if_neg e2, if_neg e2]; omega
         · rw [if_neg e1, if_neg e1, if_neg e1]
           by_cases e2 : t = v
           · rw [if_pos e2, if_pos e2, if_pos e2]; omega
           · rw [if_neg e2, if_neg e2, if_neg e2]; omega
       · have o1 := h.over i a c
         have o2 := push_over tr (by omega : 0 ≤ b) i
         rw [g3 i a]
         constructor
         · intro q
           by_cases q1 : rd f0 i < rd f i
           · exact o1.1 q1
           · exact o2.1 (by omega)
         · intro q
           by_cases q1 : rd f i < rd f0 i
           · exact o1.2 q1
           · exact o2.2 (by omega)
      have head_ : ∀ {r : List Int × Int × Int}, Ev (fun k => block_Block.l0 k caps s t most nx2 L g (n + b) V ls (starts (net V ls)) (order (net V ls)) (heads (net V ls))) r → Ev (fun k => block_Block.l0 k caps s t most nx L f n V ls (starts (net V ls)) (order (net V ls)) (heads (net V ls))) r := by
       intro r R
       refine Ev.step (fun k => by rw [block_Block.l0]) ?_
       refine Ev.ite_pos hn (Ev.bind E1 (Ev.ite_neg (by show ¬ ((p.length : Int) = 0); intro e; exact pne (List.eq_nil_of_length_eq_zero (by omega))) ?_))
       refine Ev.bind E2 ?_
       rw [wrap_id (x := most - n) (by omega) (by omega)]
       refine Ev.bind E3 (Ev.bind E4 ?_)
       rw [wrap_id (x := n + b) (by omega) (by omega)]
       exact R
      by_cases full : n + b = most
      · refine ⟨g, n + b, head_ ?_, mid.blk hc (.inl full), wing, fun e => by omega⟩
        refine Ev.step (fun k => by rw [block_Block.l0]) ?_
        exact Ev.ite_neg (by omega) (Ev.now _)
      · have less : opens (net V ls) (rd caps) (rd L) (pushAll (rd f) b p) + 1 ≤ opens (net V ls) (rd caps) (rd L) (rd f) := by
         refine pw.2.2 ?_
         rcases List.mem_cons.1 lst.mem with e | e
         · omega
         · obtain ⟨k, hk, e2⟩ := List.mem_map.1 e
           exact ⟨k, hk, e2⟩
        have same : opens (net V ls) (rd caps) (rd L) (rd g) = opens (net V ls) (rd caps) (rd L) (pushAll (rd f) b p) := by
         unfold opens cnt
         refine S_congr (fun k a c => ?_)
         have e : Open (net V ls) (rd caps) (rd L) (rd g) k ↔ Open (net V ls) (rd caps) (rd L) (pushAll (rd f) b p) k := by
          unfold Open
          rw [room_near g3 a]
         by_cases q : Open (net V ls) (rd caps) (rd L) (rd g) k
         · rw [if_pos (dt q), if_pos (dt (e.1 q))]
         · rw [if_neg (by simpa using q), if_neg (by simpa using fun w => q (e.2 w))]
        obtain ⟨f2, n2, X, x2⟩ := ih g nx2 (n + b) mid (by rw [same]; omega)
        exact ⟨f2, n2, head_ X, x2⟩
  · refine ⟨f, n, ?_, h.blk hc (.inl (by have := h.rate; omega)), h.win, h.none⟩
    refine Ev.step (fun k => by rw [block_Block.l0]) ?_
    exact Ev.ite_neg hn (Ev.now _)
end
theorem block_Block_ev (V : Int) (ls : List S53) (caps f : List Int) (s t most : Int) :
 ∃ (f2 L : List Int) (n : Int), Ev (fun k => block_Block.f k V ls caps f s t most) (if FlowOk V ls caps f s t ∧ 0 ≤ most ∧ most ≤ 4611686018427387904 then (f2, n, 0) else ([], 0, 1100)) ∧
  (FlowOk V ls caps f s t ∧ 0 ≤ most ∧ most ≤ 4611686018427387904 → L.length = V.toNat ∧ Lev V.toNat (Res (net V ls) (rd caps) (rd f)) s (rd L) ∧ Blk (net V ls) (rd caps) (rd L) (rd f) (rd f2) s t most n ∧ Win caps f2 ∧ (n = 0 → f2 = f)) := by
 have bad : ∀ k0 : List Int, Ev (fun k => block_Block.j0 k caps f s t most true V ls) (([], 0, 1100) : List Int × Int × Int) := fun _ => by
  refine Ev.step (fun k => by rw [block_Block.j0]) ?_
  exact Ev.ite_pos rfl (Ev.now _)
 by_cases h : FlowOk V ls caps f s t
 · by_cases hm : 0 ≤ most ∧ most ≤ 4611686018427387904
   · obtain ⟨L, E1, hL⟩ := level_Levels_ev V ls caps f s
     have lok : CapsOk V ls caps ∧ Win caps f ∧ 0 ≤ s ∧ s < V := ⟨h.c, h.w, h.vs⟩
     rw [if_pos lok] at E1
     obtain ⟨l1, l2⟩ := hL lok
     have hv2 := h.c.g.v2
     have hv8 := h.c.g.v8
     have hm16 := h.c.g.m16
     have B1 := arcs_Build_ev V ls
     rw [if_pos h.c.g] at B1
     have mid0 : Mid V ls caps L f s t most f (starts (net V ls)) 0 := ⟨h.w, Nx.start, ⟨Int.le_refl _, hm.1⟩, fun v => by
      by_cases e1 : s = v <;> by_cases e2 : t = v <;> simp [e1, e2], fun i a c => ⟨fun q => by omega, fun q => by omega⟩, fun _ => rfl⟩
     obtain ⟨f2, n, X, x2, x3, x4⟩ := block_go h.c l1 (fun v a b => ⟨l2.low v a (by omega), by have := l2.lt v a (by omega); omega⟩) h.vs h.vt l2.src h.ne hm.2 ((opens (net V ls) (rd caps) (rd L) (rd f)).toNat + 1) f (starts (net V ls)) 0 mid0 (by omega)
     refine ⟨f2, L, n, ?_, fun _ => ⟨l1, l2, x2, x3, x4⟩⟩
     rw [if_pos ⟨h, hm⟩]
     unfold block_Block.f
     refine Ev.bind (stream_May_ev V ls caps f s t) ?_
     refine Ev.ite_pos (dt h) ?_
     refine Ev.call (rate_Is_eq _) ?_
     rw [dt hm]
     refine Ev.step (fun k => by rw [block_Block.j0]) ?_
     refine Ev.ite_neg (by decide) ?_
     refine Ev.bind B1 (Ev.bind E1 ?_)
     have fl : f.length = ls.length := by rw [h.w.len, h.c.len]
     refine Ev.call (Clone_eq (by omega)) ?_
     have sl := starts_len (net V ls)
     have hNV : ((net V ls).V : Int) = V := net_V (by omega)
     refine Ev.call (Clone_eq (xs := starts (net V ls)) (by omega)) ?_
     exact X
   · refine ⟨[], [], 0, ?_, fun g => absurd g.2 hm⟩
     rw [if_neg (fun g => hm g.2)]
     unfold block_Block.f
     refine Ev.bind (stream_May_ev V ls caps f s t) ?_
     refine Ev.ite_pos (dt h) ?_
     refine Ev.call (rate_Is_eq _) ?_
     rw [df hm]
     exact bad []
 · refine ⟨[], [], 0, ?_, fun g => absurd g.1 h⟩
   rw [if_neg (fun g => h g.1)]
   unfold block_Block.f
   refine Ev.bind (stream_May_ev V ls caps f s t) ?_
   refine Ev.ite_neg (by simp only [decide_eq_true_eq]; exact h) ?_
   exact bad []
def smallLs : List S53 := [⟨0, 1, 5⟩, ⟨1, 2, 4⟩, ⟨0, 2, 3⟩]
theorem three_ {i : Int} (h0 : 0 ≤ i) (h1 : i < 3) : i = 0 ∨ i = 1 ∨ i = 2 := by omega
theorem six_ {i : Int} (h0 : 0 ≤ i) (h1 : i < 6) : i = 0 ∨ i = 1 ∨ i = 2 ∨ i = 3 ∨ i = 4 ∨ i = 5 := by omega
theorem small_ok11 : GOk 3 smallLs := by
 refine ⟨by decide, by decide, by decide, ⟨fun i a b => ?_⟩, fun i a b => ?_, by decide⟩
 · rcases three_ a b with rfl | rfl | rfl <;> decide
 · rcases three_ a b with rfl | rfl | rfl <;> decide
theorem small_caps11 : CapsOk 3 smallLs [5, 4, 3] := by
 refine ⟨small_ok11, rfl, fun i a b => ?_⟩
 rcases three_ a b with rfl | rfl | rfl <;> decide
theorem small_flow11 (f : List Int) (hl : f.length = 3) (h0 : 0 ≤ rd f 0 ∧ rd f 0 ≤ 5) (h1 : 0 ≤ rd f 1 ∧ rd f 1 ≤ 4) (h2 : 0 ≤ rd f 2 ∧ rd f 2 ≤ 3) (e : rd f 0 = rd f 1) : FlowOk 3 smallLs [5, 4, 3] f 0 2 := by
 refine ⟨small_caps11, ⟨hl, fun i a b => ?_⟩, by omega, by omega, by omega, ?_, fun v a b c d => ?_⟩
 · rw [hl] at b
   rcases three_ a b with rfl | rfl | rfl
   · exact h0
   · exact h1
   · exact h2
 · have g : gain (net 3 smallLs) (rd f) 0 = 0 + (rd f 0 - 0) + (0 - 0) + (rd f 2 - 0) := rfl
   omega
 · obtain rfl : v = 1 := by omega
   have g : gain (net 3 smallLs) (rd f) 1 = 0 + (0 - rd f 0) + (rd f 1 - 0) + (0 - 0) := rfl
   omega
theorem small_arc {k : Int} (h0 : 0 ≤ k) (h1 : k < 6) : (net 3 smallLs).arc k := ⟨h0, h1⟩
theorem small_block1 : Ev (fun k => block_Block.f k 3 smallLs [5, 4, 3] [0, 0, 0] 0 2 9) ([0, 0, 3], 3, 0) := by
 have fo := small_flow11 [0, 0, 0] rfl (by decide) (by decide) (by decide) rfl
 obtain ⟨f2, L, n, e, p⟩ := block_Block_ev 3 smallLs [5, 4, 3] [0, 0, 0] 0 2 9
 have ok : FlowOk 3 smallLs [5, 4, 3] [0, 0, 0] 0 2 ∧ (0 : Int) ≤ 9 ∧ (9 : Int) ≤ 4611686018427387904 := ⟨fo, by decide, by decide⟩
 obtain ⟨l1, l2, bk, w2, same⟩ := p ok
 rw [if_pos ok] at e
 have lev : Lev 3 (Res (net 3 smallLs) (rd [5, 4, 3]) (rd [0, 0, 0])) 0 (fun v => if v = 0 then 0 else 1) := by
  refine ⟨rfl, fun v a b => ?_, fun u v a b c d r h => ?_, fun v a b h => ?_, fun v a b h => ?_⟩
  · show -1 ≤ (if v = 0 then (0 : Int) else 1); split <;> omega
  · show 0 ≤ (if v = 0 then (0 : Int) else 1) ∧ (if v = 0 then (0 : Int) else 1) ≤ (if u = 0 then (0 : Int) else 1) + 1
    split <;> split <;> omega
  · rcases three_ a b with rfl | rfl | rfl
    · exact absurd h (by decide)
    · exact ⟨0, by decide, by decide, ⟨0, small_arc (by decide) (by decide), rfl, rfl, by decide⟩, by decide⟩
    · exact ⟨0, by decide, by decide, ⟨4, small_arc (by decide) (by decide), rfl, rfl, by decide⟩, by decide⟩
  · rcases three_ a b with rfl | rfl | rfl
    · rfl
    · exact absurd h (by decide)
    · exact absurd h (by decide)
 have L0 : rd L 0 = 0 := l2.unique lev 0 (by decide) (by decide)
 have L1 : rd L 1 = 1 := l2.unique lev 1 (by decide) (by decide)
 have L2 : rd L 2 = 1 := l2.unique lev 2 (by decide) (by decide)
 have hl : f2.length = 3 := w2.len
 have w0 := w2.le 0 (by decide) (by omega)
 have w1 := w2.le 1 (by decide) (by omega)
 have w3 := w2.le 2 (by decide) (by omega)
 have c0 : rd ([5, 4, 3] : List Int) 0 = 5 := rfl
 have c1 : rd ([5, 4, 3] : List Int) 1 = 4 := rfl
 have c2 : rd ([5, 4, 3] : List Int) 2 = 3 := rfl
 have f1 : rd f2 1 = 0 := by
  have o := (bk.over 1 (by decide) (by decide)).1
  by_cases q : 0 < rd f2 1
  · have := (o q).up
    have e1 : rd L (head (net 3 smallLs) (2 * 1)) = rd L 2 := rfl
    have e2 : rd L (tail (net 3 smallLs) (2 * 1)) = rd L 1 := rfl
    omega
  · omega
 have g0 := bk.gains 0
 have g1 := bk.gains 1
 have a0 : gain (net 3 smallLs) (rd f2) 0 = 0 + (rd f2 0 - 0) + (0 - 0) + (rd f2 2 - 0) := rfl
 have a1 : gain (net 3 smallLs) (rd f2) 1 = 0 + (0 - rd f2 0) + (rd f2 1 - 0) + (0 - 0) := rfl
 have b0 : gain (net 3 smallLs) (rd [0, 0, 0]) 0 = 0 := by decide
 have b1 : gain (net 3 smallLs) (rd [0, 0, 0]) 1 = 0 := by decide
 rw [a0, b0, if_pos rfl, if_neg (by decide)] at g0
 rw [a1, b1, if_neg (by decide), if_neg (by decide)] at g1
 have f3 : rd f2 2 = 3 := by
  rcases bk.full with q | q
  · omega
  · by_cases r : rd f2 2 = 3
    · exact r
    · exfalso
      refine q ⟨[4], ⟨⟨small_arc (by decide) (by decide), ?_, ?_⟩, ?_⟩, rfl, rfl⟩
      · show 0 ≤ rd L 0; omega
      · show rd L 2 = rd L 0 + 1; omega
      · show 0 < 3 - rd f2 2; omega
 have ef : f2 = [0, 0, 3] := rd_ext hl (fun i a b => by
  rw [hl] at b
  rcases three_ a b with rfl | rfl | rfl
  · show rd f2 0 = 0; omega
  · show rd f2 1 = 0; omega
  · show rd f2 2 = 3; omega)
 have en : n = 3 := by omega
 rw [ef, en] at e
 exact e
theorem small_block2 : Ev (fun k => block_Block.f k 3 smallLs [5, 4, 3] [0, 0, 3] 0 2 1) ([1, 1, 3], 1, 0) := by
 have fo := small_flow11 [0, 0, 3] rfl (by decide) (by decide) (by decide) rfl
 obtain ⟨f2, L, n, e, p⟩ := block_Block_ev 3 smallLs [5, 4, 3] [0, 0, 3] 0 2 1
 have ok : FlowOk 3 smallLs [5, 4, 3] [0, 0, 3] 0 2 ∧ (0 : Int) ≤ 1 ∧ (1 : Int) ≤ 4611686018427387904 := ⟨fo, by decide, by decide⟩
 obtain ⟨l1, l2, bk, w2, same⟩ := p ok
 rw [if_pos ok] at e
 have lev : Lev 3 (Res (net 3 smallLs) (rd [5, 4, 3]) (rd [0, 0, 3])) 0 (fun v => v) := by
  refine ⟨rfl, fun v a b => by omega, fun u v a b c d r h => ?_, fun v a b h => ?_, fun v a b h => h⟩
  · obtain ⟨k, ka, kt, kh, kr⟩ := r
    refine ⟨c, ?_⟩
    by_cases q : v ≤ u + 1
    · exact q
    · exfalso
      have hu : u = 0 := by omega
      have hv : v = 2 := by omega
      rw [hu] at kt
      rw [hv] at kh
      rcases six_ ka.1 ka.2 with rfl | rfl | rfl | rfl | rfl | rfl
      · exact absurd kh (by decide)
      · exact absurd kt (by decide)
      · exact absurd kt (by decide)
      · exact absurd kt (by decide)
      · exact absurd kr (by decide)
      · exact absurd kt (by decide)
  · rcases three_ a b with rfl | rfl | rfl
    · exact absurd h (by decide)
    · exact ⟨0, by decide, by decide, ⟨0, small_arc (by decide) (by decide), rfl, rfl, by decide⟩, by decide⟩
    · exact ⟨1, by decide, by decide, ⟨2, small_arc (by decide) (by decide), rfl, rfl, by decide⟩, by decide⟩
 have L0 : rd L 0 = 0 := l2.unique lev 0 (by decide) (by decide)
 have L1 : rd L 1 = 1 := l2.unique lev 1 (by decide) (by decide)
 have L2 : rd L 2 = 2 := l2.unique lev 2 (by decide) (by decide)
 have hl : f2.length = 3 := w2.len
 have w0 := w2.le 0 (by decide) (by omega)
 have w1 := w2.le 1 (by decide) (by omega)
 have w3 := w2.le 2 (by decide) (by omega)
 have c0 : rd ([5, 4, 3] : List Int) 0 = 5 := rfl
 have c1 : rd ([5, 4, 3] : List Int) 1 = 4 := rfl
 have c2 : rd ([5, 4, 3] : List Int) 2 = 3 := rfl
 have f3 : rd f2 2 = 3 := by
  have o := (bk.over 2 (by decide) (by decide)).2
  by_cases q : rd f2 2 < 3
  · have := (o q).up
    have e1 : rd L (head (net 3 smallLs) (2 * 2 + 1)) = rd L 0 := rfl
    have e2 : rd L (tail (net 3 smallLs) (2 * 2 + 1)) = rd L 2 := rfl
    omega
  · omega
 have g0 := bk.gains 0
 have g1 := bk.gains 1
 have a0 : gain (net 3 smallLs) (rd f2) 0 = 0 + (rd f2 0 - 0) + (0 - 0) + (rd f2 2 - 0) := rfl
 have a1 : gain (net 3 smallLs) (rd f2) 1 = 0 + (0 - rd f2 0) + (rd f2 1 - 0) + (0 - 0) := rfl
 have b0 : gain (net 3 smallLs) (rd [0, 0, 3]) 0 = 3 := by decide
 have b1 : gain (net 3 smallLs) (rd [0, 0, 3]) 1 = 0 := by decide
 rw [a0, b0, if_pos rfl, if_neg (by decide)] at g0
 rw [a1, b1, if_neg (by decide), if_neg (by decide)] at g1
 have rt := bk.rate
 have en : n = 1 := by
  rcases bk.full with q | q
  · exact q
  · by_cases r : n = 1
    · exact r
    · exfalso
      refine q ⟨[0, 2], ⟨⟨small_arc (by decide) (by decide), ?_, ?_⟩, ?_⟩, rfl, ⟨⟨small_arc (by decide) (by decide), ?_, ?_⟩, ?_⟩, rfl, rfl⟩
      · show 0 ≤ rd L 0; omega
      · show rd L 1 = rd L 0 + 1; omega
      · show 0 < 5 - rd f2 0; omega
      · show 0 ≤ rd L 1; omega
      · show rd L 2 = rd L 1 + 1; omega
      · show 0 < 4 - rd f2 1; omega
 have ef : f2 = [1, 1, 3] := rd_ext hl (fun i a b => by
  rw [hl] at b
  rcases three_ a b with rfl | rfl | rfl
  · show rd f2 0 = 1; omega
  · show rd f2 1 = 1; omega
  · show rd f2 2 = 3; omega)
 rw [ef, en] at e
 exact e
theorem small_block3 : Ev (fun k => block_Block.f k 3 smallLs [5, 4, 3] [1, 0, 0] 0 2 1) ([], 0, 1100) := by
 obtain ⟨f2, L, n, e, p⟩ := block_Block_ev 3 smallLs [5, 4, 3] [1, 0, 0] 0 2 1
 rw [if_neg (fun g => by
  have := g.1.keep 1 (by decide) (by decide) (by decide) (by decide)
  exact absurd this (by decide))] at e
 exact e
theorem awake11 : Ev (fun k => tb_awake.f k) true := by
 unfold tb_awake.f
 have sm : tb_small.f = some (3, smallLs) := rfl
 refine Ev.call sm (Ev.bind small_block1 (Ev.call sm (Ev.bind small_block2 (Ev.call sm (Ev.bind small_block3 ?_)))))
 refine Ev.bind (SameInts_self _ (by decide)) (Ev.ite_pos rfl (Ev.ite_pos rfl (Ev.call rfl (Ev.ite_pos rfl (Ev.bind (SameInts_self _ (by decide)) (Ev.ite_pos rfl (Ev.ite_pos rfl (Ev.call rfl (Ev.ite_pos rfl (Ev.call rfl ?_))))))))))
 exact Ev.now true
theorem CopyIntsK_eq {xs : List Int} (h : xs.length < 17592186044416) : tw_CopyInts.f xs = some xs := by
 unfold tw_CopyInts.f
 simp only [Option.bind_some]
 rw [if_pos (by simpa using h)]
 rfl
theorem LendInts_eq {xs : List Int} (h : xs.length + 2 < 17592186044416) : tw_LendInts.f xs = some xs := by
 unfold tw_LendInts.f
 rw [CopyIntsK_eq (by omega)]
 simp only [Option.bind_some]
 rw [if_pos h]
theorem KeptInts_ev (xs : List Int) (h : xs.length + 2 < 17592186044416) : Ev (fun k => tw_KeptInts.f k xs xs) true := by
 unfold tw_KeptInts.f
 refine Ev.ite_pos h (Ev.ite_pos rfl ?_)
 refine Ev.bind (SameInts_self xs (by omega)) ?_
 exact Ev.ite_pos rfl (Ev.now _)
def lvP (N : Net) (c f M : Int → Int) (at_ a v : Int) : Prop := M v = at_ + 1 ∧ ∃ k : Int, 0 ≤ k ∧ k < a ∧ N.arc k ∧ 0 < room c f k ∧ M (tail N k) = at_ ∧ head N k = v
noncomputable def lvF (N : Net) (c f M : Int → Int) (at_ a v : Int) : Int := if 0 ≤ M v ∧ M v ≤ at_ then M v else if lvP N c f M at_ a v then at_ + 1 else -1
noncomputable def lvT (N : Net) (c f M : Int → Int) (at_ a : Int) : List Int := tab N.V (lvF N c f M at_ a)
theorem lvT_len (N : Net) (c f M : Int → Int) (at_ a : Int) : (lvT N c f M at_ a).length = N.V := tab_len _ _
theorem lvT_rd {N : Net} {c f M : Int → Int} {at_ a v : Int} (h0 : 0 ≤ v) (h1 : v < (N.V : Int)) : rd (lvT N c f M at_ a) v = lvF N c f M at_ a v := rd_tab h0 h1
theorem lvF_at {N : Net} {c f M : Int → Int} {at_ a v : Int} (h : 0 ≤ at_) : lvF N c f M at_ a v = at_ ↔ M v = at_ := by
 unfold lvF
 constructor
 · intro e
   split at e
   · exact e
   · split at e <;> omega
 · intro e
   rw [if_pos (by omega)]; exact e
theorem lvF_same {N : Net} {c f M : Int → Int} {at_ i : Int} (H : ¬ (M (tail N i) = at_ ∧ 0 < room c f i ∧ lvF N c f M at_ i (head N i) < 0)) (v : Int) : lvF N c f M at_ (i + 1) v = lvF N c f M at_ i v := by
 unfold lvF
 by_cases q : 0 ≤ M v ∧ M v ≤ at_
 · rw [if_pos q, if_pos q]
 · rw [if_neg q, if_neg q]
   have e : lvP N c f M at_ (i + 1) v ↔ lvP N c f M at_ i v := by
    constructor
    · rintro ⟨e, k, k0, k1, a, r, t, h⟩
      by_cases ek : k = i
      · subst ek
        refine Classical.byContradiction (fun hn => H ⟨t, r, ?_⟩)
        rw [h]
        unfold lvF
        rw [if_neg q, if_neg hn]; omega
      · exact ⟨e, k, k0, by omega, a, r, t, h⟩
    · rintro ⟨e, k, k0, k1, a, r, t, h⟩
      exact ⟨e, k, k0, by omega, a, r, t, h⟩
   by_cases p : lvP N c f M at_ i v
   · rw [if_pos p, if_pos (e.2 p)]
   · rw [if_neg p, if_neg (fun g => p (e.1 g))]
theorem lvT_same {N : Net} {c f M : Int → Int} {at_ i : Int} (H : ¬ (M (tail N i) = at_ ∧ 0 < room c f i ∧ lvF N c f M at_ i (head N i) < 0)) : lvT N c f M at_ i = lvT N c f M at_ (i + 1) :=
 rd_ext (by rw [lvT_len, lvT_len]) (fun v a b => by rw [lvT_len] at b; rw [lvT_rd a b, lvT_rd a b, lvF_same H])
theorem lvT_set {N : Net} {c f M : Int → Int} {at_ i : Int} (i0 : 0 ≤ i) (ha : N.arc i) (ht : M (tail N i) = at_) (hr : 0 < room c f i) (hh : M (head N i) = at_ + 1) (h0 : 0 ≤ head N i) (h1 : head N i < (N.V : Int)) :
 (lvT N c f M at_ i).set (head N i).toNat (at_ + 1) = lvT N c f M at_ (i + 1) := by
 refine rd_ext (by rw [List.length_set, lvT_len, lvT_len]) (fun v a b => ?_)
 rw [List.length_set, lvT_len] at b
 rw [rd_set h0 (by rw [lvT_len]; exact h1) a, lvT_rd a b, lvT_rd a b]
 by_cases e : v = head N i
 · rw [if_pos e]
   unfold lvF
   rw [if_neg (by rw [e]; omega), if_pos ⟨by rw [e]; exact hh, i, i0, by omega, ha, hr, ht, e.symm⟩]
 · rw [if_neg e]
   unfold lvF
   by_cases q : 0 ≤ M v ∧ M v ≤ at_
   · rw [if_pos q, if_pos q]
   · rw [if_neg q, if_neg q]
     have e2 : lvP N c f M at_ (i + 1) v ↔ lvP N c f M at_ i v := by
      constructor
      · rintro ⟨e3, k, k0, k1, a3, r, t, h⟩
        exact ⟨e3, k, k0, by
         have : k ≠ i := fun ek => e (by rw [← h, ek])
         omega, a3, r, t, h⟩
      · rintro ⟨e3, k, k0, k1, a3, r, t, h⟩
        exact ⟨e3, k, k0, by omega, a3, r, t, h⟩
     by_cases p : lvP N c f M at_ i v
     · rw [if_pos p, if_pos (e2.2 p)]
     · rw [if_neg p, if_neg (fun g => p (e2.1 g))]
theorem lvT_next {N : Net} {c f M : Int → Int} {s at_ : Int} (h : Lev N.V (Res N c f) s M) (h0 : 0 ≤ at_) : lvT N c f M at_ (2 * (N.m : Int)) = lvT N c f M (at_ + 1) 0 := by
 refine rd_ext (by rw [lvT_len, lvT_len]) (fun v a b => ?_)
 rw [lvT_len] at b
 rw [lvT_rd a b, lvT_rd a b]
 unfold lvF
 have no : ¬ lvP N c f M (at_ + 1) 0 v := by rintro ⟨_, k, k0, k1, _⟩; omega
 rw [if_neg no]
 by_cases q : 0 ≤ M v ∧ M v ≤ at_
 · rw [if_pos q, if_pos (by omega)]
 · rw [if_neg q]
   by_cases e : M v = at_ + 1
   · rw [if_pos (show 0 ≤ M v ∧ M v ≤ at_ + 1 by omega)]
     obtain ⟨u, u0, u1, ⟨k, ha, ht, hh, hr⟩, hu⟩ := h.back v a b (by omega)
     rw [if_pos ⟨e, k, ha.1, ha.2, ha, hr, by rw [ht]; omega, hh⟩]
     exact e.symm
   · rw [if_neg (show ¬ (0 ≤ M v ∧ M v ≤ at_ + 1) by omega), if_neg (fun g => e g.1)]
theorem lvT_last {N : Net} {c f : Int → Int} {s : Int} {r : List Int} (hr : r.length = N.V) (h : Lev N.V (Res N c f) s (rd r)) : lvT N c f (rd r) (N.V : Int) 0 = r := by
 refine rd_ext (by rw [lvT_len, hr]) (fun v a b => ?_)
 rw [lvT_len] at b
 rw [lvT_rd a b]
 unfold lvF
 have no : ¬ lvP N c f (rd r) (N.V : Int) 0 v := by rintro ⟨_, k, k0, k1, _⟩; omega
 have h1 := h.lt v a b
 have h2 := h.low v a b
 rw [if_neg no]
 by_cases q : 0 ≤ rd r v ∧ rd r v ≤ (N.V : Int)
 · rw [if_pos q]
 · rw [if_neg q]; omega
theorem lvT_first {N : Net} {c f M : Int → Int} {s : Int} (h : Lev N.V (Res N c f) s M) (s0 : 0 ≤ s) (s1 : s < (N.V : Int)) : (tab N.V (fun _ => (-1 : Int))).set s.toNat 0 = lvT N c f M 0 0 := by
 refine rd_ext (by rw [List.length_set, tab_len, lvT_len]) (fun v a b => ?_)
 rw [List.length_set, tab_len] at b
 rw [rd_set s0 (by rw [tab_len]; exact s1) a, lvT_rd a b, rd_tab a b]
 unfold lvF
 have no : ¬ lvP N c f M 0 0 v := by rintro ⟨_, k, k0, k1, _⟩; omega
 rw [if_neg no]
 by_cases e : v = s
 · rw [if_pos e, e, h.src]; rfl
 · rw [if_neg e, if_neg (fun q => e (h.zero v a b (by omega)))]
section
variable {V : Int} {ls : List S53} {caps f : List Int} {s : Int}
theorem reflev_arcs (hc : CapsOk V ls caps) (hw : Win caps f) {r q : List Int} (hr : r.length = V.toNat) (hL : Lev V.toNat (Res (net V ls) (rd caps) (rd f)) s (rd r)) {a : Nat} (ha : (a : Int) < V)
 (next : Ev (fun k => r4_Levels.l1 k caps f (lvT (net V ls) (rd caps) (rd f) (rd r) ((a : Int) + 1) 0) ((a : Int) + 1) V ls) (q, 0)) (d : Nat) :
 ∀ (i : Nat), i ≤ 2 * ls.length → 2 * ls.length - i = d →
  Ev (fun k => r4_Levels.l2 k caps f (lvT (net V ls) (rd caps) (rd f) (rd r) (a : Int) (i : Int)) (a : Int) (i : Int) V ls) (q, 0) := by
 have hm := hc.g.m16
 have hv8 := hc.g.v8
 have hv2 := hc.g.v2
 have hfl : f.length = ls.length := by rw [hw.len, hc.len]
 have hNV : ((net V ls).V : Int) = V := net_V (by omega)
 induction d with
 | zero =>
  intro i hi he
  obtain rfl : i = 2 * ls.length := by omega
  refine Ev.step (fun k => by rw [r4_Levels.l2]) ?_
  rw [twice_ (ls := ls) (by omega)]
  refine Ev.ite_neg (by omega) ?_
  have e := lvT_next (N := net V ls) (at_ := (a : Int)) hL (by omega)
  rw [net_m] at e
  rw [show ((2 * ls.length : Nat) : Int) = 2 * (ls.length : Int) by omega, e]
  exact Ev.congr (fun k => by rw [wrap_id (x := (a : Int) + 1) (by omega) (by omega)]) next
 | succ d ih =>
  intro i hi he
  have hk0 : (0 : Int) ≤ (i : Int) := by omega
  have hk1 : (i : Int) < 2 * (ls.length : Int) := by omega
  have harc : (net V ls).arc (i : Int) := by unfold Net.arc; rw [net_m]; omega
  have t0 := tail_vert hc.g harc
  have h0 := head_vert hc.g harc
  have X := ih (i + 1) (by omega) (by omega)
  have T := ref_Tail_eq V ls (by omega) hk0 hk1
  have Hd := ref_Head_eq V ls (by omega) hk0 hk1
  have hlen : ((lvT (net V ls) (rd caps) (rd f) (rd r) (a : Int) (i : Int)).length : Int) = V := by rw [lvT_len]; exact hNV
  have cast : ((i + 1 : Nat) : Int) = (i : Int) + 1 := by omega
  have skip : ¬ (rd r (tail (net V ls) (i : Int)) = (a : Int) ∧ 0 < room (rd caps) (rd f) (i : Int) ∧ lvF (net V ls) (rd caps) (rd f) (rd r) (a : Int) (i : Int) (head (net V ls) (i : Int)) < 0) →
   Ev (fun k => r4_Levels.l2 k caps f (lvT (net V ls) (rd caps) (rd f) (rd r) (a : Int) (i : Int)) (a : Int) (wrap64 ((i : Int) + 1)) V ls) (q, 0) := by
   intro H
   rw [lvT_same H, ← cast]
   exact Ev.congr (fun k => by rw [cast, wrap_id (x := (i : Int) + 1) (by omega) (by omega)]) X
  refine Ev.step (fun k => by rw [r4_Levels.l2]) ?_
  rw [twice_ (ls := ls) (by omega)]
  refine Ev.ite_pos hk1 ?_
  refine Ev.call T ?_
  refine Ev.ite_pos t0.1 (Ev.ite_pos (by omega) ?_)
  rw [lvT_rd t0.1 (by omega)]
  by_cases y : rd r (tail (net V ls) (i : Int)) = (a : Int)
  · refine Ev.ite_pos ((lvF_at (by omega)).2 y) ?_
    refine Ev.call (ref_room_ok hc hw hk0 hk1) ?_
    by_cases z : room (rd caps) (rd f) (i : Int) > 0
    · refine Ev.ite_pos z ?_
      refine Ev.call Hd ?_
      refine Ev.ite_pos h0.1 (Ev.ite_pos (by omega) ?_)
      rw [lvT_rd h0.1 (by omega)]
      by_cases x : lvF (net V ls) (rd caps) (rd f) (rd r) (a : Int) (i : Int) (head (net V ls) (i : Int)) < 0
      · have hon := hL.on (tail (net V ls) (i : Int)) (head (net V ls) (i : Int)) t0.1 (by omega) h0.1 (by omega) ⟨(i : Int), harc, rfl, rfl, z⟩ (by omega)
        have hM : rd r (head (net V ls) (i : Int)) = (a : Int) + 1 := by
         refine Classical.byContradiction (fun hn => ?_)
         unfold lvF at x
         rw [if_pos (by omega)] at x
         omega
        refine Ev.ite_pos x ?_
        refine Ev.call Hd ?_
        refine Ev.ite_pos h0.1 (Ev.ite_pos (by omega) ?_)
        rw [wrap_id (x := (a : Int) + 1) (by omega) (by omega), lvT_set hk0 harc y z hM h0.1 (by omega), ← cast]
        exact Ev.congr (fun k => by rw [cast, wrap_id (x := (i : Int) + 1) (by omega) (by omega)]) X
      · refine Ev.ite_neg x ?_
        exact skip (fun g => x g.2.2)
    · refine Ev.ite_neg z ?_
      exact skip (fun g => z g.2.1)
  · refine Ev.ite_neg (fun g => y ((lvF_at (by omega)).1 g)) ?_
    exact skip (fun g => y g.1)
theorem reflev_rounds (hc : CapsOk V ls caps) (hw : Win caps f) {r : List Int} (hr : r.length = V.toNat) (hL : Lev V.toNat (Res (net V ls) (rd caps) (rd f)) s (rd r)) (d : Nat) :
 ∀ (a : Nat), (a : Int) ≤ V → V.toNat - a = d → Ev (fun k => r4_Levels.l1 k caps f (lvT (net V ls) (rd caps) (rd f) (rd r) (a : Int) 0) (a : Int) V ls) (r, 0) := by
 have hv8 := hc.g.v8
 have hv2 := hc.g.v2
 have hNV : ((net V ls).V : Int) = V := net_V (by omega)
 induction d with
 | zero =>
  intro a ha hd
  have ea : (a : Int) = V := by omega
  refine Ev.step (fun k => by rw [r4_Levels.l1]) ?_
  refine Ev.ite_neg (by omega) ?_
  have e := lvT_last (N := net V ls) hr hL
  rw [hNV] at e
  rw [ea, e]
  exact Ev.now _
 | succ d ih =>
  intro a ha hd
  have X := ih (a + 1) (by omega) (by omega)
  refine Ev.step (fun k => by rw [r4_Levels.l1]) ?_
  refine Ev.ite_pos (by omega) ?_
  refine reflev_arcs hc hw hr hL (by omega) ?_ (2 * ls.length) 0 (by omega) (by omega)
  rw [show (a : Int) + 1 = ((a + 1 : Nat) : Int) by omega]
  exact X
theorem reflev_fill (hc : CapsOk V ls caps) (hw : Win caps f) (hs : 0 ≤ s ∧ s < V) {r : List Int} (hr : r.length = V.toNat) (hL : Lev V.toNat (Res (net V ls) (rd caps) (rd f)) s (rd r)) (d : Nat) :
 ∀ (i : Nat), (i : Int) ≤ V → V.toNat - i = d → Ev (fun k => r4_Levels.l0 k caps f s (tab V.toNat (fun v => if v < (i : Int) then -1 else 0)) (i : Int) V ls) (r, 0) := by
 have hv8 := hc.g.v8
 have hv2 := hc.g.v2
 have hNV : ((net V ls).V : Int) = V := net_V (by omega)
 induction d with
 | zero =>
  intro i hi hd
  have ei : (i : Int) = V := by omega
  refine Ev.step (fun k => by rw [r4_Levels.l0]) ?_
  refine Ev.ite_neg (by omega) ?_
  refine Ev.ite_pos hs.1 (Ev.ite_pos (by rw [tab_len]; omega) ?_)
  have e : tab V.toNat (fun v => if v < (i : Int) then (-1 : Int) else 0) = tab V.toNat (fun _ => (-1 : Int)) := eq_tab (tab_len _ _) (fun v a b => by rw [rd_tab a b, if_pos (by omega)])
  have e2 : (tab V.toNat (fun _ => (-1 : Int))).set s.toNat 0 = lvT (net V ls) (rd caps) (rd f) (rd r) 0 0 := lvT_first (N := net V ls) hL hs.1 (by omega)
  rw [e, e2]
  exact reflev_rounds hc hw hr hL V.toNat 0 (by omega) (by omega)
 | succ d ih =>
  intro i hi hd
  have X := ih (i + 1) (by omega) (by omega)
  refine Ev.step (fun k => by rw [r4_Levels.l0]) ?_
  refine Ev.ite_pos (by omega) (Ev.ite_pos (by omega) (Ev.ite_pos (by rw [tab_len]; omega) ?_))
  have e : (tab V.toNat (fun v => if v < (i : Int) then (-1 : Int) else 0)).set ((i : Int) : Int).toNat (-1) = tab V.toNat (fun v => if v < ((i + 1 : Nat) : Int) then (-1 : Int) else 0) := by
   refine eq_tab (by rw [List.length_set, tab_len]) (fun v a b => ?_)
   rw [rd_set (by omega) (by rw [tab_len]; omega) a, rd_tab a b]
   by_cases ev : v = (i : Int)
   · rw [if_pos ev, if_pos (by omega)]
   · rw [if_neg ev]
     by_cases lt : v < (i : Int)
     · rw [if_pos lt, if_pos (by omega)]
     · rw [if_neg lt, if_neg (by omega)]
  rw [e]
  exact Ev.congr (fun k => by rw [wrap_succ (by omega)]) X
end
theorem ref_Levels_ev (V : Int) (ls : List S53) (caps f : List Int) (s : Int) (hf : f.length ≤ 17592186044416) {r : List Int}
 (h : CapsOk V ls caps ∧ Win caps f ∧ 0 ≤ s ∧ s < V → r.length = V.toNat ∧ Lev V.toNat (Res (net V ls) (rd caps) (rd f)) s (rd r)) :
 Ev (fun k => r4_Levels.f k V ls caps f s) (if CapsOk V ls caps ∧ Win caps f ∧ 0 ≤ s ∧ s < V then (r, 0) else ([], 1000)) := by
 have no : ¬ (CapsOk V ls caps ∧ Win caps f ∧ 0 ≤ s ∧ s < V) → Ev (fun k => r4_Levels.j0 k caps f s true V ls) (if CapsOk V ls caps ∧ Win caps f ∧ 0 ≤ s ∧ s < V then (r, 0) else ([], 1000)) := by
  intro g
  rw [if_neg g]
  refine Ev.step (fun k => by rw [r4_Levels.j0]) ?_
  exact Ev.ite_pos rfl (Ev.now _)
 unfold r4_Levels.f
 refine Ev.bind (ref_CapsMay_ev V ls caps) ?_
 by_cases hc : CapsOk V ls caps
 · refine Ev.ite_pos (dt hc) ?_
   refine Ev.bind (ref_Within_ev caps f hf) ?_
   by_cases hw : Win caps f
   · refine Ev.ite_pos (dt hw) ?_
     refine Ev.call (ref_Vertex_eq _ _ _) ?_
     by_cases hs : 0 ≤ s ∧ s < V
     · obtain ⟨h1, h2⟩ := h ⟨hc, hw, hs⟩
       have hv8 := hc.g.v8
       have hv2 := hc.g.v2
       rw [dt hs, if_pos ⟨hc, hw, hs⟩]
       refine Ev.step (fun k => by rw [r4_Levels.j0]) ?_
       refine Ev.ite_neg (by decide) (Ev.ite_pos (by omega) (Ev.ite_pos (by omega) ?_))
       have e : List.replicate V.toNat (0 : Int) = tab V.toNat (fun v => if v < ((0 : Nat) : Int) then (-1 : Int) else 0) := eq_tab (by simp) (fun v a b => by rw [rd_rep a b, if_neg (by omega)])
       rw [e]
       exact reflev_fill hc hw hs h1 h2 V.toNat 0 (by omega) (by omega)
     · rw [df hs]
       exact no (fun g => hs g.2.2)
   · refine Ev.ite_neg (by simp only [decide_eq_true_eq]; exact hw) ?_
     exact no (fun g => hw g.2.1)
 · refine Ev.ite_neg (by simp only [decide_eq_true_eq]; exact hc) ?_
   exact no (fun g => hc g.1)
theorem Num_eq11 (x : Int) : tw_Num.f x = some x := rfl
section
variable {V : Int} {ls : List S53} {f : List Int}
end
def Grown1 (V : Nat) (X X' : Int → Bool) (on : Bool) (t h : Int) : Prop := ∀ v : Int, 0 ≤ v → v < (V : Int) → X' v = if v = h then (X v || (on && X t)) else X v
structure Half (V : Nat) (E : Int → Int → Prop) (s : Int) (X Y : Int → Bool) (P : Int → Int → Prop) : Prop where
 sub : ∀ v : Int, 0 ≤ v → v < (V : Int) → X v = true → Y v = true
 reach : ∀ v : Int, 0 ≤ v → v < (V : Int) → Y v = true → Plain.Reach E s v
 keep : (∀ a b : Int, 0 ≤ a → a < (V : Int) → 0 ≤ b → b < (V : Int) → E a b → X a = true → X b = true) → ∀ v : Int, 0 ≤ v → v < (V : Int) → Y v = X v
 more : cnt V X + 1 ≤ cnt V Y ∨ ((∀ v : Int, 0 ≤ v → v < (V : Int) → Y v = X v) ∧ ∀ t h : Int, P t h → X t = true → X h = true)
theorem Half.start {V : Nat} {E : Int → Int → Prop} {s : Int} {X : Int → Bool} (h : ∀ v : Int, 0 ≤ v → v < (V : Int) → X v = true → Plain.Reach E s v) : Half V E s X X (fun _ _ => False) :=
 ⟨fun _ _ _ g => g, h, fun _ _ _ _ => rfl, .inr ⟨fun _ _ _ => rfl, fun _ _ g => g.elim⟩⟩
theorem Half.step {V : Nat} {E : Int → Int → Prop} {s : Int} {X Y Z : Int → Bool} {P Q : Int → Int → Prop} {on : Bool} {t h : Int} (H : Half V E s X Y P) (g : Grown1 V Y Z on t h) (t0 : 0 ≤ t ∧ t < (V : Int)) (h0 : 0 ≤ h ∧ h < (V : Int)) (he : on = true → E t h)
 (hQ : ∀ a b : Int, Q a b → P a b ∨ (a = t ∧ b = h ∧ on = true)) : Half V E s X Z Q := by
 have sub2 : ∀ v : Int, 0 ≤ v → v < (V : Int) → Y v = true → Z v = true := by
  intro v a b c
  rw [g v a b]
  by_cases e : v = h
  · rw [if_pos e, c]; rfl
  · rw [if_neg e]; exact c
 refine ⟨fun v a b c => sub2 v a b (H.sub v a b c), fun v a b c => ?_, fun hX v a b => ?_, ?_⟩
 · rw [g v a b] at c
   by_cases e : v = h
   · rw [if_pos e] at c
     cases hy : Y v with
     | true => exact H.reach v a b hy
     | false =>
      rw [hy] at c
      simp at c
      rw [e]
      exact .step (H.reach t t0.1 t0.2 c.2) (he c.1)
   · rw [if_neg e] at c
     exact H.reach v a b c
 · have hy := H.keep hX
   rw [g v a b]
   by_cases e : v = h
   · rw [if_pos e, hy v a b, hy t t0.1 t0.2]
     cases hx : X v with
     | true => rfl
     | false =>
      cases ho : on with
      | false => rfl
      | true =>
       cases ht : X t with
       | false => rfl
       | true =>
        have := hX t h t0.1 t0.2 h0.1 h0.2 (he ho) ht
        rw [e, this] at hx
        cases hx
   · rw [if_neg e]; exact hy v a b
 · rcases H.more with m | ⟨m1, m2⟩
   · left
     have := cnt_mono (V := V) (P := Y) (Q := Z) sub2
     omega
   · by_cases new : on = true ∧ X t = true ∧ X h = false
     · left
       have e1 : Y h = false := by rw [m1 h h0.1 h0.2]; exact new.2.2
       have e2 : Z h = true := by
        rw [g h h0.1 h0.2, if_pos rfl, new.1, m1 t t0.1 t0.2, new.2.1]; simp
       have := cnt_lt (V := V) (P := Y) (Q := Z) sub2 h0.1 h0.2 e1 e2
       have e3 : cnt V Y = cnt V X := by
        have a1 := cnt_mono (V := V) (P := Y) (Q := X) (fun v a b c => by rw [← m1 v a b]; exact c)
        have a2 := cnt_mono (V := V) (P := X) (Q := Y) H.sub
        omega
       omega
     · right
       refine ⟨fun v a b => ?_, fun a b hq => ?_⟩
       · rw [g v a b]
         by_cases e : v = h
         · rw [if_pos e, m1 v a b, m1 t t0.1 t0.2]
           cases hx : X v with
           | true => rfl
           | false =>
            cases ho : on with
            | false => rfl
            | true =>
             cases ht : X t with
             | false => rfl
             | true => exact absurd ⟨ho, ht, by rw [← e]; exact hx⟩ new
         · rw [if_neg e]; exact m1 v a b
       · rcases hQ a b hq with hp | ⟨ea, eb, eo⟩
         · exact m2 a b hp
         · intro hx
           rw [ea] at hx
           rw [eb]
           cases hh : X h with
           | true => rfl
           | false => exact absurd ⟨eo, hx, hh⟩ new
def shutE (V : Nat) (E : Int → Int → Prop) (X : Int → Bool) : Prop := ∀ t h : Int, 0 ≤ t → t < (V : Int) → 0 ≤ h → h < (V : Int) → E t h → X t = true → X h = true
theorem shutE.reach {V : Nat} {E : Int → Int → Prop} {s : Int} {X : Int → Bool} (h : shutE V E X) (hE : ∀ u v : Int, E u v → (0 ≤ u ∧ u < (V : Int)) ∧ (0 ≤ v ∧ v < (V : Int))) (hs : X s = true) {v : Int} (g : Plain.Reach E s v) : X v = true :=
 Plain.Reach.closed (X := fun v => X v = true) hs (fun u v hu e => h u v (hE u v e).1.1 (hE u v e).1.2 (hE u v e).2.1 (hE u v e).2.2 e hu) g
theorem Half.round {V : Nat} {E : Int → Int → Prop} {s : Int} {X Y : Int → Bool} {n : Nat} (H : Half V E s X Y E) (h : shutE V E X ∨ (n : Int) ≤ cnt V X) (hE : ∀ u v : Int, E u v → (0 ≤ u ∧ u < (V : Int)) ∧ (0 ≤ v ∧ v < (V : Int))) :
 (shutE V E Y ∨ ((n + 1 : Nat) : Int) ≤ cnt V Y) := by
 rcases H.more with m | ⟨m1, m2⟩
 · rcases h with h | h
   · left
     have hy := H.keep h
     intro t u t0 t1 u0 u1 e hx
     rw [hy t t0 t1] at hx
     rw [hy u u0 u1]
     exact h t u t0 t1 u0 u1 e hx
   · right; omega
 · left
   intro t u t0 t1 u0 u1 e hx
   rw [m1 t t0 t1] at hx
   rw [m1 u u0 u1]
   exact m2 t u e hx
def lets (N : Net) (X : List Bool) (u v : Int) : Prop := ∃ k : Int, N.arc k ∧ rdOf false X k = true ∧ tail N k = u ∧ head N k = v
def letsTo (N : Net) (X : List Bool) (i u v : Int) : Prop := ∃ k : Int, k < i ∧ N.arc k ∧ rdOf false X k = true ∧ tail N k = u ∧ head N k = v
theorem Half.sub_ {V : Nat} {E : Int → Int → Prop} {s : Int} {X Y : Int → Bool} {P Q : Int → Int → Prop} (h : Half V E s X Y P) (g : ∀ a b : Int, Q a b → P a b) : Half V E s X Y Q := by
 refine ⟨h.sub, h.reach, h.keep, ?_⟩
 rcases h.more with m | ⟨m1, m2⟩
 · exact .inl m
 · exact .inr ⟨m1, fun a b q => m2 a b (g a b q)⟩
section
variable {V : Int} {ls : List S53}
theorem ways_pick (hg : GOk V ls) {B : List Bool} (hB : B.length = 2 * ls.length) {s t j : Int} {X : List Bool} (d : Nat) :
 ∀ (i : Nat) (Y : List Bool), i ≤ 2 * ls.length → 2 * ls.length - i = d → Y.length = V.toNat → Half V.toNat (lets (net V ls) B) s (rdOf false X) (rdOf false Y) (letsTo (net V ls) B (i : Int)) →
  ∃ Z : List Bool, Z.length = V.toNat ∧ Half V.toNat (lets (net V ls) B) s (rdOf false X) (rdOf false Z) (lets (net V ls) B) ∧
   ∀ r : Bool, Ev (fun k => r4_Ways.l0 k B t Z (wrap64 (j + 1)) V ls) r → Ev (fun k => r4_Ways.l1 k B t Y j (i : Int) V ls) r := by
 have hv2 := hg.v2
 have hv8 := hg.v8
 have hm := hg.m16
 have hNV : ((net V ls).V : Int) = V := net_V (by omega)
 induction d with
 | zero =>
  intro i Y hi hd hY H
  obtain rfl : i = 2 * ls.length := by omega
  refine ⟨Y, hY, H.sub_ (fun a b ⟨k, ha, hb, ht, hh⟩ => ⟨k, by unfold Net.arc at ha; rw [net_m] at ha; omega, ha, hb, ht, hh⟩), fun r next => ?_⟩
  refine Ev.step (fun k => by rw [r4_Ways.l1]) ?_
  rw [twice_ (ls := ls) (by omega)]
  exact Ev.ite_neg (by omega) next
 | succ d ih =>
  intro i Y hi hd hY H
  have hk0 : (0 : Int) ≤ (i : Int) := by omega
  have hk1 : (i : Int) < 2 * (ls.length : Int) := by omega
  have harc : (net V ls).arc (i : Int) := by unfold Net.arc; rw [net_m]; omega
  have t0 := tail_vert hg harc
  have h0 := head_vert hg harc
  have T := ref_Tail_eq V ls (by omega) hk0 hk1
  have Hd := ref_Head_eq V ls (by omega) hk0 hk1
  have step : ∀ Z : List Bool, Z.length = V.toNat → Grown1 V.toNat (rdOf false Y) (rdOf false Z) (rdOf false B (i : Int)) (tail (net V ls) (i : Int)) (head (net V ls) (i : Int)) →
   Half V.toNat (lets (net V ls) B) s (rdOf false X) (rdOf false Z) (letsTo (net V ls) B ((i + 1 : Nat) : Int)) := by
   intro Z hZ g
   refine H.step g ⟨t0.1, by omega⟩ ⟨h0.1, by omega⟩ (fun hb => ⟨(i : Int), harc, hb, rfl, rfl⟩) ?_
   rintro a b ⟨k, kl, ka, kb, kt, kh⟩
   by_cases e : k = (i : Int)
   · right
     subst e
     exact ⟨kt.symm, kh.symm, kb⟩
   · left
     exact ⟨k, by omega, ka, kb, kt, kh⟩
  cases hb : rdOf false B (i : Int) with
  | false =>
   have g : Grown1 V.toNat (rdOf false Y) (rdOf false Y) (rdOf false B (i : Int)) (tail (net V ls) (i : Int)) (head (net V ls) (i : Int)) := by
    intro v v0 v1
    rw [hb]
    split <;> simp
   obtain ⟨Z, z1, z2, z3⟩ := ih (i + 1) Y (by omega) (by omega) hY (step Y hY g)
   refine ⟨Z, z1, z2, fun r next => ?_⟩
   refine Ev.step (fun k => by rw [r4_Ways.l1]) ?_
   rw [twice_ (ls := ls) (by omega)]
   refine Ev.ite_pos hk1 (Ev.ite_pos hk0 (Ev.ite_pos (by omega) (Ev.ite_neg (by rw [hb]; decide) ?_)))
   exact Ev.congr (fun k => by rw [wrap_succ (by omega)]) (z3 r next)
  | true =>
   cases hy : rdOf false Y (tail (net V ls) (i : Int)) with
   | false =>
    have g : Grown1 V.toNat (rdOf false Y) (rdOf false Y) (rdOf false B (i : Int)) (tail (net V ls) (i : Int)) (head (net V ls) (i : Int)) := by
     intro v v0 v1
     rw [hy]
     split <;> simp
    obtain ⟨Z, z1, z2, z3⟩ := ih (i + 1) Y (by omega) (by omega) hY (step Y hY g)
    refine ⟨Z, z1, z2, fun r next => ?_⟩
    refine Ev.step (fun k => by rw [r4_Ways.l1]) ?_
    rw [twice_ (ls := ls) (by omega)]
    refine Ev.ite_pos hk1 (Ev.ite_pos hk0 (Ev.ite_pos (by omega) (Ev.ite_pos hb (Ev.call T (Ev.ite_pos t0.1 (Ev.ite_pos (by omega) (Ev.ite_neg (by rw [hy]; decide) ?_)))))))
    exact Ev.congr (fun k => by rw [wrap_succ (by omega)]) (z3 r next)
   | true =>
    have g : Grown1 V.toNat (rdOf false Y) (rdOf false (Y.set (head (net V ls) (i : Int)).toNat true)) (rdOf false B (i : Int)) (tail (net V ls) (i : Int)) (head (net V ls) (i : Int)) := by
     intro v v0 v1
     rw [rdOf_set h0.1 (by omega) v0, hb, hy]
     split <;> simp
    obtain ⟨Z, z1, z2, z3⟩ := ih (i + 1) _ (by omega) (by omega) (by rw [List.length_set]; exact hY) (step _ (by rw [List.length_set]; exact hY) g)
    refine ⟨Z, z1, z2, fun r next => ?_⟩
    refine Ev.step (fun k => by rw [r4_Ways.l1]) ?_
    rw [twice_ (ls := ls) (by omega)]
    refine Ev.ite_pos hk1 (Ev.ite_pos hk0 (Ev.ite_pos (by omega) (Ev.ite_pos hb (Ev.call T (Ev.ite_pos t0.1 (Ev.ite_pos (by omega) (Ev.ite_pos hy (Ev.call Hd (Ev.ite_pos h0.1 (Ev.ite_pos (by omega) ?_))))))))))
    exact Ev.congr (fun k => by rw [wrap_succ (by omega)]) (z3 r next)
theorem lets_range (hg : GOk V ls) {B : List Bool} : ∀ u v : Int, lets (net V ls) B u v → (0 ≤ u ∧ u < (V.toNat : Int)) ∧ (0 ≤ v ∧ v < (V.toNat : Int)) := by
 rintro u v ⟨k, ha, hb, ht, hh⟩
 have t0 := tail_vert hg ha
 have h0 := head_vert hg ha
 rw [← ht, ← hh]
 omega
theorem ways_rounds (hg : GOk V ls) {B : List Bool} (hB : B.length = 2 * ls.length) {s t : Int} (hs : 0 ≤ s ∧ s < V) (ht : 0 ≤ t ∧ t < V) (d : Nat) :
 ∀ (j : Nat) (Y : List Bool), (j : Int) ≤ V → V.toNat - j = d → Y.length = V.toNat → rdOf false Y s = true → (∀ v : Int, 0 ≤ v → v < (V.toNat : Int) → rdOf false Y v = true → Plain.Reach (lets (net V ls) B) s v) →
  (shutE V.toNat (lets (net V ls) B) (rdOf false Y) ∨ ((j + 1 : Nat) : Int) ≤ cnt V.toNat (rdOf false Y)) →
  Ev (fun k => r4_Ways.l0 k B t Y (j : Int) V ls) (decide (Plain.Reach (lets (net V ls) B) s t)) := by
 have hv2 := hg.v2
 have hv8 := hg.v8
 induction d with
 | zero =>
  intro j Y hj hd hY hsY hr hc
  have hsh : shutE V.toNat (lets (net V ls) B) (rdOf false Y) := by
   rcases hc with h | h
   · exact h
   · have := cnt_le V.toNat (rdOf false Y)
     omega
  refine Ev.step (fun k => by rw [r4_Ways.l0]) ?_
  refine Ev.ite_neg (by omega) (Ev.ite_pos ht.1 (Ev.ite_pos (by omega) ?_))
  have e : rdOf false Y t = decide (Plain.Reach (lets (net V ls) B) s t) := by
   by_cases h : Plain.Reach (lets (net V ls) B) s t
   · rw [dt h]
     exact hsh.reach (lets_range hg) hsY h
   · rw [df h]
     cases g : rdOf false Y t with
     | false => rfl
     | true => exact absurd (hr t ht.1 (by omega) g) h
  rw [e]
  exact Ev.now _
 | succ d ih =>
  intro j Y hj hd hY hsY hr hc
  have start : Half V.toNat (lets (net V ls) B) s (rdOf false Y) (rdOf false Y) (letsTo (net V ls) B ((0 : Nat) : Int)) :=
   (Half.start hr).sub_ (fun a b ⟨k, kl, ka, _⟩ => by unfold Net.arc at ka; omega)
  obtain ⟨Z, z1, z2, z3⟩ := ways_pick hg hB (t := t) (j := (j : Int)) (2 * ls.length) 0 Y (by omega) (by omega) hY start
  have c2 := z2.round hc (lets_range hg)
  have X := ih (j + 1) Z (by omega) (by omega) z1 (z2.sub s hs.1 (by omega) hsY) z2.reach c2
  refine Ev.step (fun k => by rw [r4_Ways.l0]) ?_
  refine Ev.ite_pos (by omega) ?_
  refine z3 _ ?_
  exact Ev.congr (fun k => by rw [wrap_succ (by omega)]) X
theorem Ways_ev (hg : GOk V ls) {B : List Bool} (hB : B.length = 2 * ls.length) {s t : Int} (hs : 0 ≤ s ∧ s < V) (ht : 0 ≤ t ∧ t < V) :
 Ev (fun k => r4_Ways.f k V ls B s t) (decide (Plain.Reach (lets (net V ls) B) s t)) := by
 have hv2 := hg.v2
 have hv8 := hg.v8
 unfold r4_Ways.f
 refine Ev.ite_pos (by omega) (Ev.ite_pos (by omega) ?_)
 refine Ev.call rfl ?_
 refine Ev.ite_pos hs.1 (Ev.ite_pos (by rw [List.length_replicate]; omega) ?_)
 have hr : ∀ v : Int, 0 ≤ v → v < (V.toNat : Int) → rdOf false ((List.replicate V.toNat false).set s.toNat true) v = decide (v = s) := by
  intro v v0 v1
  rw [rdOf_set hs.1 (by rw [List.length_replicate]; omega) v0, rdOf_rep v0 v1]
  by_cases e : v = s
  · rw [if_pos e, dt e]
  · rw [if_neg e, df e]
 refine ways_rounds hg hB hs ht V.toNat 0 _ (by omega) (by omega) (by rw [List.length_set, List.length_replicate]) ?_ (fun v v0 v1 hv => ?_) (.inr ?_)
 · rw [hr s hs.1 (by omega), dt rfl]
 · rw [hr v v0 v1] at hv
   rw [of_decide_eq_true hv]
   exact .base
 · have := cnt_lt (V := V.toNat) (P := fun _ => false) (Q := rdOf false ((List.replicate V.toNat false).set s.toNat true)) (fun _ _ _ g => by cases g) hs.1 (by omega) rfl (by rw [hr s hs.1 (by omega), dt rfl])
   have := cnt_nonneg V.toNat (fun _ => false)
   omega
end
section
variable {V : Int} {ls : List S53} {f p : List Int}
end
section
variable {V : Int} {ls : List S53} {caps : List Int}
theorem room_ref (hc : CapsOk V ls caps) {f : List Int} (hw : Win caps f) {k : Int} (k0 : 0 ≤ k) (k1 : k < 2 * (ls.length : Int)) : Ev (fun r => r4_Room.f r V ls caps f k) (room (rd caps) (rd f) k, 0) := by
 have hm := hc.g.m16
 have h := ref_Room_ev V ls caps f k (by have := hw.len; have := hc.len; omega)
 rw [if_pos ⟨hc, hw, k0, k1⟩] at h
 exact h
theorem steps11_loop (hc : CapsOk V ls caps) {f L : List Int} (hw : Win caps f) (hL : L.length = V.toNat) (hLb : ∀ v : Int, 0 ≤ v → v < V → -1 ≤ rd L v ∧ rd L v < V) (d : Nat) :
 ∀ (i : Nat) (X : List Bool), i ≤ 2 * ls.length → 2 * ls.length - i = d → X.length = 2 * ls.length → (∀ j : Int, 0 ≤ j → j < (i : Int) → rdOf false X j = decide (Open (net V ls) (rd caps) (rd L) (rd f) j)) →
  ∃ B : List Bool, Ev (fun k => tb_steps.l0 k caps f L X (i : Int) V ls) B ∧ B.length = 2 * ls.length ∧ ∀ j : Int, 0 ≤ j → j < 2 * (ls.length : Int) → rdOf false B j = decide (Open (net V ls) (rd caps) (rd L) (rd f) j) := by
 have hv2 := hc.g.v2
 have hv8 := hc.g.v8
 have hm := hc.g.m16
 induction d with
 | zero =>
  intro i X hi hd hX hp
  refine ⟨X, ?_, hX, fun j a b => hp j a (by omega)⟩
  refine Ev.step (fun k => by rw [tb_steps.l0]) ?_
  exact Ev.ite_neg (by omega) (Ev.now _)
 | succ d ih =>
  intro i X hi hd hX hp
  have ha : (net V ls).arc (i : Int) := ⟨by omega, by rw [net_m]; omega⟩
  have ht := tail_vert hc.g ha
  have hh := head_vert hc.g ha
  have tb := hLb _ ht.1 ht.2
  have E1 := room_ref hc hw (k := (i : Int)) (by omega) (by omega)
  have E2 := ref_Tail_eq V ls (by omega) (k := (i : Int)) (by omega) (by omega)
  have E3 := ref_Head_eq V ls (by omega) (k := (i : Int)) (by omega) (by omega)
  have next : ∀ b : Bool, b = decide (Open (net V ls) (rd caps) (rd L) (rd f) (i : Int)) → ∃ B : List Bool, Ev (fun k => tb_steps.l0 k caps f L (X.set ((i : Int) : Int).toNat b) (wrap64 ((i : Int) + 1)) V ls) B ∧ B.length = 2 * ls.length ∧ ∀ j : Int, 0 ≤ j → j < 2 * (ls.length : Int) → rdOf false B j = decide (Open (net V ls) (rd caps) (rd L) (rd f) j) := by
   intro b hb
   obtain ⟨B, X1, b1, b2⟩ := ih (i + 1) (X.set ((i : Int) : Int).toNat b) (by omega) (by omega) (by rw [List.length_set]; exact hX) (fun j a c => by
    rw [rdOf_set (by omega) (by omega) a]
    by_cases e : j = (i : Int)
    · rw [if_pos e, hb, e]
    · rw [if_neg e]; exact hp j a (by omega))
   exact ⟨B, Ev.congr (fun k => by rw [wrap_succ (by omega)]) X1, b1, b2⟩
  by_cases r : room (rd caps) (rd f) (i : Int) > 0
  · by_cases lt : rd L (tail (net V ls) (i : Int)) ≥ 0
    · obtain ⟨B, X1, b⟩ := next (rd L (head (net V ls) (i : Int)) == wrap64 (rd L (tail (net V ls) (i : Int)) + 1)) (by
       rw [wrap_id (by omega) (by omega)]
       by_cases q : rd L (head (net V ls) (i : Int)) = rd L (tail (net V ls) (i : Int)) + 1
       · rw [dt (show Open (net V ls) (rd caps) (rd L) (rd f) (i : Int) from ⟨⟨ha, lt, q⟩, r⟩)]
         exact beq_iff_eq.2 q
       · rw [df (fun o : Open (net V ls) (rd caps) (rd L) (rd f) (i : Int) => q o.1.up)]
         exact beq_eq_false_iff_ne.2 q)
      refine ⟨B, ?_, b⟩
      refine Ev.step (fun k => by rw [tb_steps.l0]) ?_
      exact Ev.ite_pos (by omega) (Ev.bind E1 (Ev.call E2 (Ev.call E3 (Ev.ite_pos r (Ev.ite_pos ht.1 (Ev.ite_pos (by omega) (Ev.ite_pos lt (Ev.ite_pos hh.1 (Ev.ite_pos (by omega) (Ev.ite_pos (by omega) X1))))))))))
    · obtain ⟨B, X1, b⟩ := next false (df (fun o => lt o.1.low)).symm
      refine ⟨B, ?_, b⟩
      refine Ev.step (fun k => by rw [tb_steps.l0]) ?_
      exact Ev.ite_pos (by omega) (Ev.bind E1 (Ev.call E2 (Ev.call E3 (Ev.ite_pos r (Ev.ite_pos ht.1 (Ev.ite_pos (by omega) (Ev.ite_neg lt (Ev.ite_pos (by omega) X1))))))))
  · obtain ⟨B, X1, b⟩ := next false (df (fun o => r o.2)).symm
    refine ⟨B, ?_, b⟩
    refine Ev.step (fun k => by rw [tb_steps.l0]) ?_
    exact Ev.ite_pos (by omega) (Ev.bind E1 (Ev.call E2 (Ev.call E3 (Ev.ite_neg r (Ev.ite_pos (by omega) X1)))))
theorem steps11_ev (hc : CapsOk V ls caps) {f L : List Int} (hw : Win caps f) {s : Int} (s0 : 0 ≤ s ∧ s < V) (hL : L.length = V.toNat) (hLev : Lev V.toNat (Res (net V ls) (rd caps) (rd f)) s (rd L)) :
 ∃ B : List Bool, Ev (fun k => tb_steps.f k V ls caps f s) B ∧ B.length = 2 * ls.length ∧ ∀ j : Int, 0 ≤ j → j < 2 * (ls.length : Int) → rdOf false B j = decide (Open (net V ls) (rd caps) (rd L) (rd f) j) := by
 have hv2 := hc.g.v2
 have hv8 := hc.g.v8
 have hm := hc.g.m16
 have E1 := ref_Levels_ev V ls caps f s (by have := hw.len; have := hc.len; omega) (r := L) (fun _ => ⟨hL, hLev⟩)
 rw [if_pos ⟨hc, hw, s0⟩] at E1
 obtain ⟨B, X, b⟩ := steps11_loop hc hw hL (fun v a b => ⟨hLev.low v a (by omega), by have := hLev.lt v a (by omega); omega⟩) (2 * ls.length) 0 (List.replicate (2 * ls.length) false) (by omega) (by omega) (by rw [List.length_replicate]) (fun j a b => by omega)
 refine ⟨B, ?_, b⟩
 unfold tb_steps.f
 refine Ev.bind E1 ?_
 have w2 : wrap64 (2 * (ls.length : Int)) = ((2 * ls.length : Nat) : Int) := by rw [twice_ (by omega)]; omega
 rw [w2]
 refine Ev.ite_pos (by omega) (Ev.ite_pos (by omega) ?_)
 rw [Int.toNat_natCast]
 exact X
theorem blocks_end (hc : CapsOk V ls caps) {f a L x13 x14 : List Int} {s t most n : Int} (hf : FlowOk V ls caps f s t) (bk : Blk (net V ls) (rd caps) (rd L) (rd f) (rd a) s t most n) (x13e : x13 = caps) (x14e : x14 = f) (hcl : caps.length + 2 < 17592186044416) (hfl : f.length + 2 < 17592186044416) {B : List Bool} (hB : B.length = 2 * ls.length)
 (hb : ∀ j : Int, 0 ≤ j → j < 2 * (ls.length : Int) → rdOf false B j = decide (Open (net V ls) (rd caps) (rd L) (rd f) j ∧ 0 < room (rd caps) (rd a) j)) :
 Ev (fun k => (tb_awake.f k).bind fun t545 => (if t545 = true then (if n = most then ((tw_KeptInts.f k x13 caps).bind fun t546 => (if t546 = true then ((tw_KeptInts.f k x14 f).bind fun t547 => (some t547)) else (none))) else ((r4_Ways.f k V ls B s t).bind fun t548 => (if t548 = true then (none) else ((tw_KeptInts.f k x13 caps).bind fun t549 => (if t549 = true then ((tw_KeptInts.f k x14 f).bind fun t550 => (some t550)) else (none)))))) else (none))) true := by
 subst x13e x14e
 have K : Ev (fun k => (tw_KeptInts.f k x13 x13).bind fun t546 => (if t546 = true then ((tw_KeptInts.f k x14 x14).bind fun t547 => (some t547)) else (none))) true :=
  Ev.bind (KeptInts_ev _ hcl) (Ev.ite_pos rfl (Ev.bind (KeptInts_ev _ hfl) (Ev.now _)))
 refine Ev.bind awake11 (Ev.ite_pos rfl ?_)
 by_cases hn : n = most
 · exact Ev.ite_pos hn K
 · refine Ev.ite_neg hn (Ev.bind (Ways_ev hc.g hB hf.vs hf.vt) (Ev.ite_neg ?_ K))
   simp only [decide_eq_true_eq]
   intro g
   rcases bk.full with q | q
   · exact hn q
   · refine q ?_
     have go : ∀ v : Int, Plain.Reach (lets (net V ls) B) s v → Goes (net V ls) (Open (net V ls) (rd x13) (rd L) (rd a)) s v := by
      intro v r
      induction r with
      | base => exact ⟨[], rfl⟩
      | step _ hE ih =>
       obtain ⟨p, hp⟩ := ih
       obtain ⟨k, ka, kb, kt, kh⟩ := hE
       have ka2 := ka
       unfold Net.arc at ka2
       rw [net_m] at ka2
       rw [hb k ka2.1 ka2.2] at kb
       have kb2 := of_decide_eq_true kb
       exact ⟨p ++ [k], hp.app ⟨⟨kb2.1.1, kb2.2⟩, kt, kh⟩⟩
     exact go t g
theorem blocks_l1 (hc : CapsOk V ls caps) {f a L x13 x14 : List Int} {s t most n : Int} (hf : FlowOk V ls caps f s t) (wa : Win caps a) (bk : Blk (net V ls) (rd caps) (rd L) (rd f) (rd a) s t most n) (x13e : x13 = caps) (x14e : x14 = f) (hcl : caps.length + 2 < 17592186044416) (hfl : f.length + 2 < 17592186044416) (d : Nat) :
 ∀ (i : Nat) (B : List Bool), i ≤ 2 * ls.length → 2 * ls.length - i = d → B.length = 2 * ls.length → (∀ j : Int, 0 ≤ j → j < (i : Int) → rdOf false B j = decide (Open (net V ls) (rd caps) (rd L) (rd f) j ∧ 0 < room (rd caps) (rd a) j)) → (∀ j : Int, (i : Int) ≤ j → j < 2 * (ls.length : Int) → rdOf false B j = decide (Open (net V ls) (rd caps) (rd L) (rd f) j)) →
  Ev (fun k => tb_Blocks.l1 k caps f s t most x13 x14 a n B (i : Int) V ls) true := by
 have hm := hc.g.m16
 induction d with
 | zero =>
  intro i B hi hd hB h1 h2
  refine Ev.step (fun k => by rw [tb_Blocks.l1]) ?_
  refine Ev.ite_neg (by omega) ?_
  exact blocks_end hc hf bk x13e x14e hcl hfl hB (fun j a b => h1 j a (by omega))
 | succ d ih =>
  intro i B hi hd hB h1 h2
  have E1 := room_ref hc wa (k := (i : Int)) (by omega) (by omega)
  refine Ev.step (fun k => by rw [tb_Blocks.l1]) ?_
  refine Ev.ite_pos (by omega) (Ev.bind E1 (Ev.ite_pos (by omega) ?_))
  have h3 := h2 (i : Int) (Int.le_refl _) (by omega)
  have next : ∀ b : Bool, b = decide (Open (net V ls) (rd caps) (rd L) (rd f) (i : Int) ∧ 0 < room (rd caps) (rd a) (i : Int)) → Ev (fun k => tb_Blocks.l1 k caps f s t most x13 x14 a n (B.set ((i : Int) : Int).toNat b) (wrap64 ((i : Int) + 1)) V ls) true := by
   intro b hb
   have X := ih (i + 1) (B.set ((i : Int) : Int).toNat b) (by omega) (by omega) (by rw [List.length_set]; exact hB) (fun j a c => by
    rw [rdOf_set (by omega) (by omega) a]
    by_cases e : j = (i : Int)
    · rw [if_pos e, hb, e]
    · rw [if_neg e]; exact h1 j a (by omega)) (fun j a c => by
    rw [rdOf_set (by omega) (by omega) (by omega), if_neg (by omega)]
    exact h2 j (by omega) c)
   exact Ev.congr (fun k => by rw [wrap_succ (by omega)]) X
  by_cases o : Open (net V ls) (rd caps) (rd L) (rd f) (i : Int)
  · rw [dt o] at h3
    refine Ev.ite_pos h3 (next _ ?_)
    by_cases r : 0 < room (rd caps) (rd a) (i : Int)
    · rw [dt (show room (rd caps) (rd a) (i : Int) > 0 from r), dt ⟨o, r⟩]
    · rw [df (show ¬ room (rd caps) (rd a) (i : Int) > 0 from r), df (fun q => r q.2)]
  · rw [df o] at h3
    refine Ev.ite_neg (by rw [h3]; decide) (next _ ?_)
    rw [df (fun q => o q.1)]
theorem blocks_l0 (hc : CapsOk V ls caps) {f a L x13 x14 : List Int} {s t most n : Int} (hf : FlowOk V ls caps f s t) (wa : Win caps a) (bk : Blk (net V ls) (rd caps) (rd L) (rd f) (rd a) s t most n) (x13e : x13 = caps) (x14e : x14 = f) (hcl : caps.length + 2 < 17592186044416) (hfl : f.length + 2 < 17592186044416)
 {B : List Bool} (hB : B.length = 2 * ls.length) (hb : ∀ j : Int, 0 ≤ j → j < 2 * (ls.length : Int) → rdOf false B j = decide (Open (net V ls) (rd caps) (rd L) (rd f) j)) (d : Nat) :
 ∀ i : Nat, i ≤ f.length → f.length - i = d → Ev (fun k => tb_Blocks.l0 k caps f s t most x13 x14 a n B (i : Int) V ls) true := by
 have hm := hc.g.m16
 have fl : f.length = ls.length := by rw [hf.w.len, hc.len]
 have al : a.length = ls.length := by rw [wa.len, hc.len]
 induction d with
 | zero =>
  intro i hi hd
  refine Ev.step (fun k => by rw [tb_Blocks.l0]) ?_
  refine Ev.ite_neg (by omega) ?_
  exact blocks_l1 hc hf wa bk x13e x14e hcl hfl (2 * ls.length) 0 B (by omega) (by omega) hB (fun j a b => by omega) (fun j a b => hb j (by omega) b)
 | succ d ih =>
  intro i hi hd
  have X : Ev (fun k => tb_Blocks.l0 k caps f s t most x13 x14 a n B (wrap64 ((i : Int) + 1)) V ls) true := Ev.congr (fun k => by rw [wrap_succ (by omega)]) (ih (i + 1) (by omega) (by omega))
  have w2 : wrap64 (2 * (i : Int)) = 2 * (i : Int) := wrap_id (by omega) (by omega)
  have w3 : wrap64 (2 * (i : Int) + 1) = 2 * (i : Int) + 1 := wrap_id (by omega) (by omega)
  have ov := bk.over (i : Int) (by omega) (by rw [net_m]; omega)
  have wf := hf.w.le (i : Int) (by omega) (by omega)
  have wg := wa.le (i : Int) (by omega) (by omega)
  have up : rd a (i : Int) > rd f (i : Int) → rdOf false B (2 * (i : Int)) = true := fun g => by
   rw [hb _ (by omega) (by omega)]
   refine dt ⟨ov.1 g, ?_⟩
   unfold room
   rw [if_neg (by omega), show 2 * (i : Int) / 2 = (i : Int) by omega]
   omega
  have down : rd a (i : Int) < rd f (i : Int) → rdOf false B (2 * (i : Int) + 1) = true := fun g => by
   rw [hb _ (by omega) (by omega)]
   refine dt ⟨ov.2 g, ?_⟩
   unfold room
   rw [if_pos (by omega), show (2 * (i : Int) + 1) / 2 = (i : Int) by omega]
   omega
  refine Ev.step (fun k => by rw [tb_Blocks.l0]) ?_
  rw [w2, w3]
  refine Ev.ite_pos (by omega) (Ev.ite_pos (by omega) (Ev.ite_pos (by omega) ?_))
  by_cases g : rd a (i : Int) > rd f (i : Int)
  · exact Ev.ite_pos g (Ev.ite_pos (by omega) (Ev.ite_pos (by omega) (Ev.ite_pos (up g) (Ev.ite_neg (by omega) X))))
  · refine Ev.ite_neg g ?_
    by_cases g2 : rd a (i : Int) < rd f (i : Int)
    · exact Ev.ite_pos g2 (Ev.ite_pos (by omega) (Ev.ite_pos (by omega) (Ev.ite_pos (down g2) X)))
    · exact Ev.ite_neg g2 X
end
theorem Blk.flowOk {V : Int} {ls : List S53} {caps L f a : List Int} {s t most n : Int} (h : FlowOk V ls caps f s t) (w : Win caps a) (bk : Blk (net V ls) (rd caps) (rd L) (rd f) (rd a) s t most n) : FlowOk V ls caps a s t := by
 have e := net_V (V := V) (ls := ls) (by have := h.c.g.v2; omega)
 have g := bk.flow h.flow
 exact ⟨h.c, w, h.vs, h.vt, h.ne, g.pos, fun v v0 v1 a b => g.keep v ⟨v0, by omega⟩ a b⟩
theorem Blocks (V : Int) (ls : List S53) (caps f : List Int) (s t most : Int) (hcl : caps.length + 2 < 17592186044416) (hfl : f.length + 2 < 17592186044416) : Ev (fun k => tb_Blocks.f k V ls caps f s t most) true := by
 unfold tb_Blocks.f
 obtain ⟨f2, L, n, e, p⟩ := block_Block_ev V ls caps f s t most
 refine Ev.call (LendInts_eq hcl) (Ev.call (LendInts_eq hfl) (Ev.bind e (Ev.bind (ref_FlowMay_ev V ls caps f s t (by omega)) ?_)))
 have bad : ∀ r : List Int × Int × Int, r = ([], 0, 1100) → Ev (fun k => tb_Blocks.j0 k caps f s t most caps f r.1 r.2.1 r.2.2 true V ls) true := by
  rintro r rfl
  refine Ev.step (fun k => by rw [tb_Blocks.j0]) ?_
  exact Ev.ite_pos rfl (Ev.bind awake11 (Ev.ite_pos rfl (Ev.call (Num_eq11 _) (Ev.ite_pos rfl (Ev.ite_pos rfl (Ev.now _))))))
 by_cases h : FlowOk V ls caps f s t
 · refine Ev.ite_pos (dt h) ?_
   by_cases g0 : most < 0
   · rw [if_neg (fun q => by have := q.2; omega)]
     exact Ev.ite_pos g0 (bad _ rfl)
   · refine Ev.ite_neg g0 ?_
     by_cases g1 : most > 4611686018427387904
     · rw [if_neg (fun q => by have := q.2; omega), dt g1]
       exact bad _ rfl
     · have h1 : FlowOk V ls caps f s t ∧ 0 ≤ most ∧ most ≤ 4611686018427387904 := ⟨h, by omega, by omega⟩
       obtain ⟨l1, l2, bk, w2, same⟩ := p h1
       rw [if_pos h1, df g1]
       have fo := Blk.flowOk h w2 bk
       have gs := bk.gain_src h.flow
       have r := bk.rate
       have gb := (Fine.of h.c h.w).gain_bound s (n := ls.length) (Nat.le_refl _)
       obtain ⟨B, SB, b1, b2⟩ := steps11_ev h.c h.w h.vs l1 l2
       refine Ev.step (fun k => by rw [tb_Blocks.j0]) ?_
       have f2l : f2.length ≤ 17592186044416 := by have := w2.len; have := h.c.len; have := h.c.g.m16; omega
       refine Ev.ite_neg (by decide) (Ev.call (Num_eq11 _) (Ev.ite_pos rfl (Ev.ite_neg (show ¬ (n < 0) by omega) (Ev.ite_neg (show ¬ (n > most) by omega) (Ev.bind (ref_FlowMay_ev V ls caps f2 s t f2l) (Ev.ite_pos (dt fo) (Ev.bind (ref_Gain_ev V ls f2 (Fine.of fo.c fo.w) s) (Ev.bind (ref_Gain_ev V ls f (Fine.of h.c h.w) s) ?_))))))))
       have same2 : (gain (net V ls) (rd f2) s != wrap64 (gain (net V ls) (rd f) s + n)) = false := by
        have hb : -4611686018427387904 ≤ gain (net V ls) (rd f) s ∧ gain (net V ls) (rd f) s ≤ 4611686018427387904 := gb
        have hb2 : -4611686018427387904 ≤ gain (net V ls) (rd f2) s ∧ gain (net V ls) (rd f2) s ≤ 4611686018427387904 := (Fine.of fo.c fo.w).gain_bound s (n := ls.length) (Nat.le_refl _)
        rw [wrap_id (by omega) (by omega)]
        simpa using gs
       show Ev (fun k => tb_Blocks.j1 k caps f s t most caps f f2 n (gain (net V ls) (rd f2) s != wrap64 (gain (net V ls) (rd f) s + n)) V ls) true
       rw [same2]
       refine Ev.step (fun k => by rw [tb_Blocks.j1]) ?_
       refine Ev.ite_neg (by decide) (Ev.bind SB ?_)
       exact blocks_l0 h.c h w2 bk rfl rfl hcl hfl b1 b2 f.length 0 (by omega) (by omega)
 · rw [if_neg (fun q => h q.1)]
   exact Ev.ite_neg (by simp only [decide_eq_true_eq]; exact h) (bad _ rfl)
end Go.Proofs.Ytnbhfcanknhkhaa.Q
end
