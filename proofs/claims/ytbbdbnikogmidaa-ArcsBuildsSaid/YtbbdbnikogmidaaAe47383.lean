/- Texts of this claim, one behind the other: QP1, QP2, QP4, QP5. -/
import Derived.Test.YtbbdbnikogmidaaAfdd642
import Derived.Test.YtbbdbnikogmidaaA371814
import Derived.Test.YtbbdbnikogmidaaA7f7547
import Derived.Test.YtbbdbnikogmidaaA0c3135
import Derived.Test.YtbbdbnikogmidaaA0df908
section
/- What the printed functions of the layers rate, graph, arcs and their references tell: plain laws. -/
namespace Go.Proofs.Ytbbdbnikogmidaa.Q
open Go.RowKit Go.Proofs.YtbbdbnikogmidaaW.PrintWords Go.Proofs.YtbbdbnikogmidaaW.PrintMore Go.Proofs.Ytbbdbnikogmidaa.PAll Go.Proofs.Ytbbdbnikogmidaa.Plain
set_option linter.unusedVariables false
set_option linter.unusedSimpArgs false
attribute [local instance] Classical.propDecidable

theorem S_prefix {f : Int → Int} {n m : Nat} (h : ∀ i : Int, 0 ≤ i → i < (m : Int) → 0 ≤ f i) (hn : n ≤ m) : S n f ≤ S m f := by
  induction m with
  | zero => obtain rfl : n = 0 := by omega
            exact Int.le_refl _
  | succ m ih =>
    by_cases e : n = m + 1
    · subst e; exact Int.le_refl _
    · have h1 := ih (fun i a b => h i a (by omega)) (by omega)
      have h2 := h (m : Int) (by omega) (by omega)
      simp only [S]
      omega

/-! ### rates -/
theorem rate_Is_eq (x : Int) : rate_Is.f x = some (decide (0 ≤ x ∧ x ≤ 4611686018427387904)) := by
  unfold rate_Is.f
  by_cases h : x ≥ 0
  · rw [if_pos h]; congr 1; simp; omega
  · rw [if_neg h]; congr 1; simp; omega

def SumOk (xs : List Int) : Prop := (∀ i : Int, 0 ≤ i → i < (xs.length : Int) → 0 ≤ rd xs i) ∧ S xs.length (rd xs) ≤ 4611686018427387904

theorem sum_loop (xs : List Int) (hx : xs.length ≤ 4611686018427387904) (d : Nat) : ∀ (i : Nat), i ≤ xs.length → xs.length - i = d → (∀ j : Int, 0 ≤ j → j < (i : Int) → 0 ≤ rd xs j) → S i (rd xs) ≤ 4611686018427387904 →
    Ev (fun k => rate_Sum.l0 k (S i (rd xs)) xs (xs.length : Int) (i : Int)) (if SumOk xs then (S xs.length (rd xs), true) else (0, false)) := by
  induction d with
  | zero =>
    intro i hi hd hp hs
    obtain rfl : i = xs.length := by omega
    refine Ev.step (fun k => by rw [rate_Sum.l0]) ?_
    refine Ev.ite_neg (by omega) ?_
    rw [if_pos ⟨hp, hs⟩]
    exact Ev.now _
  | succ d ih =>
    intro i hi hd hp hs
    have h0 : 0 ≤ S i (rd xs) := S_nonneg hp
    refine Ev.step (fun k => by rw [rate_Sum.l0]) ?_
    refine Ev.ite_pos (by omega) ?_
    refine Ev.ite_pos (by omega) ?_
    refine Ev.ite_pos (by omega) ?_
    refine Ev.call (rate_Is_eq _) ?_
    by_cases hr : 0 ≤ rd xs i ∧ rd xs i ≤ 4611686018427387904
    · refine Ev.ite_pos (decide_eq_true hr) ?_
      by_cases hm : rd xs i > 4611686018427387904 - S i (rd xs)
      · refine Ev.ite_pos (by rw [wrap_id (by omega) (by omega)]; exact hm) ?_
        rw [if_neg]
        · exact Ev.now _
        · intro ho
          have := S_prefix (n := i + 1) ho.1 (by omega)
          simp only [S] at this
          have := ho.2
          omega
      · refine Ev.ite_neg (by rw [wrap_id (by omega) (by omega)]; exact hm) ?_
        have e2 : wrap64 (S i (rd xs) + rd xs i) = S (i + 1) (rd xs) := by rw [wrap_id (by omega) (by omega)]; rfl
        have e3 : wrap64 ((i : Int) + 1) = ((i + 1 : Nat) : Int) := wrap_succ (by omega)
        refine Ev.congr (fun k => by rw [e2, e3]) (ih (i + 1) (by omega) (by omega) ?_ ?_)
        · intro j a b
          by_cases e : j = i
          · subst e; exact hr.1
          · exact hp j a (by omega)
        · simp only [S]; omega
    · refine Ev.ite_neg (by simp only [decide_eq_true_eq]; exact hr) ?_
      rw [if_neg]
      · exact Ev.now _
      · intro ho
        have h1 := ho.1 i (by omega) (by omega)
        have := S_one_le ho.1 (k := (i : Int)) (by omega) (by omega)
        have := ho.2
        exact hr ⟨h1, by omega⟩

theorem rate_Sum_ev (xs : List Int) (hx : xs.length ≤ 4611686018427387904) : Ev (fun k => rate_Sum.f k xs) (if SumOk xs then (S xs.length (rd xs), true) else (0, false)) :=
  sum_loop xs hx xs.length 0 (by omega) (by omega) (fun j a b => by omega) (by simp [S])

/-! ### graphs -/
def lA (ls : List S66) (i : Int) : Int := (rd_T66 ls i).f0
def lB (ls : List S66) (i : Int) : Int := (rd_T66 ls i).f1
def lC (ls : List S66) (i : Int) : Int := (rd_T66 ls i).f2
def net (V : Int) (ls : List S66) : Net := { V := V.toNat, m := ls.length, a := lA ls, b := lB ls }

structure GOk (V : Int) (ls : List S66) : Prop where
  v2 : 2 ≤ V
  v8 : V ≤ 8
  m16 : ls.length ≤ 16
  ends : (net V ls).ok
  cap : ∀ i : Int, 0 ≤ i → i < (ls.length : Int) → 0 ≤ lC ls i
  sum : S ls.length (lC ls) ≤ 4611686018427387904

theorem net_V {V : Int} {ls : List S66} (h : 0 ≤ V) : ((net V ls).V : Int) = V := by simp only [net]; omega
theorem net_m {V : Int} {ls : List S66} : (net V ls).m = ls.length := rfl

theorem GOk.end_ {V : Int} {ls : List S66} (h : GOk V ls) {i : Int} (h0 : 0 ≤ i) (h1 : i < (ls.length : Int)) : (0 ≤ lA ls i ∧ lA ls i < V) ∧ (0 ≤ lB ls i ∧ lB ls i < V) ∧ lA ls i ≠ lB ls i := by
  have := h.ends.h i h0 h1
  have e := net_V (V := V) (ls := ls) (by have := h.v2; omega)
  rw [e] at this
  exact this
theorem GOk.cap_le {V : Int} {ls : List S66} (h : GOk V ls) {i : Int} (h0 : 0 ≤ i) (h1 : i < (ls.length : Int)) : lC ls i ≤ 4611686018427387904 := by
  have := S_one_le h.cap h0 h1
  have := h.sum
  omega

theorem rd_map_cap (ls : List S66) {i : Int} (h0 : 0 ≤ i) (h1 : i < (ls.length : Int)) : rd (ls.map (·.f2)) i = lC ls i := by
  unfold rd lC rd_T66
  have hl : i.toNat < ls.length := by omega
  simp only [List.getD_eq_getElem?_getD, List.getElem?_map, List.getElem?_eq_getElem hl]
  rfl

theorem caps_loop (V : Int) (ls : List S66) (hx : ls.length ≤ 17592186044416) (d : Nat) : ∀ (i : Nat), i ≤ ls.length → ls.length - i = d →
    Ev (fun k => graph_Caps.l0 k ((ls.take i).map (·.f2)) ls (ls.length : Int) (i : Int)) (ls.map (·.f2)) := by
  induction d with
  | zero =>
    intro i hi hd
    obtain rfl : i = ls.length := by omega
    refine Ev.step (fun k => by rw [graph_Caps.l0]) ?_
    refine Ev.ite_neg (by omega) ?_
    rw [List.take_length]
    exact Ev.now _
  | succ d ih =>
    intro i hi hd
    refine Ev.step (fun k => by rw [graph_Caps.l0]) ?_
    refine Ev.ite_pos (by omega) ?_
    refine Ev.ite_pos (by omega) ?_
    refine Ev.ite_pos (by omega) ?_
    refine Ev.ite_pos (by simp; omega) ?_
    have e3 : wrap64 ((i : Int) + 1) = ((i + 1 : Nat) : Int) := wrap_succ (by omega)
    have e4 : (ls.take i).map (·.f2) ++ [(rd_T66 ls (i : Int)).f2] = (ls.take (i + 1)).map (·.f2) := by
      have hl : i < ls.length := by omega
      rw [List.take_succ_eq_append_getElem hl, List.map_append]
      simp only [rd_T66, Int.toNat_natCast, List.getD_eq_getElem?_getD, List.getElem?_eq_getElem hl]
      rfl
    exact Ev.congr (fun k => by rw [e3, e4]) (ih (i + 1) (by omega) (by omega))

theorem graph_Caps_ev (V : Int) (ls : List S66) (hx : ls.length ≤ 17592186044416) : Ev (fun k => graph_Caps.f k V ls) (ls.map (·.f2)) :=
  caps_loop V ls hx ls.length 0 (by omega) (by omega)

theorem graph_Has_eq (V : Int) (ls : List S66) (v : Int) : graph_Has.f V ls v = some (decide (0 ≤ v ∧ v < V)) := by
  unfold graph_Has.f
  by_cases h : v ≥ 0
  · rw [if_pos h]; congr 1; simp; omega
  · rw [if_neg h]; congr 1; simp; omega
theorem ref_Vertex_eq (V : Int) (ls : List S66) (v : Int) : tollbarref4_Vertex.f V ls v = some (decide (0 ≤ v ∧ v < V)) := by
  unfold tollbarref4_Vertex.f
  by_cases h : v ≥ 0
  · rw [if_pos h]; congr 1; simp; omega
  · rw [if_neg h]; congr 1; simp; omega

theorem caps_sum (ls : List S66) : SumOk (ls.map (·.f2)) ↔ (∀ i : Int, 0 ≤ i → i < (ls.length : Int) → 0 ≤ lC ls i) ∧ S ls.length (lC ls) ≤ 4611686018427387904 := by
  have e : S (ls.map (·.f2)).length (rd (ls.map (·.f2))) = S ls.length (lC ls) := by
    rw [List.length_map]
    exact S_congr (fun i a b => rd_map_cap ls a b)
  unfold SumOk
  rw [e, List.length_map]
  constructor
  · rintro ⟨h1, h2⟩
    exact ⟨fun i a b => by rw [← rd_map_cap ls a b]; exact h1 i a b, h2⟩
  · rintro ⟨h1, h2⟩
    exact ⟨fun i a b => by rw [rd_map_cap ls a b]; exact h1 i a b, h2⟩

/-- link i is fine -/
def LinkOk (V : Int) (ls : List S66) (i : Int) : Prop := (0 ≤ lA ls i ∧ lA ls i < V) ∧ (0 ≤ lB ls i ∧ lB ls i < V) ∧ lA ls i ≠ lB ls i

theorem gok_iff (V : Int) (ls : List S66) : GOk V ls ↔ 2 ≤ V ∧ V ≤ 8 ∧ ls.length ≤ 16 ∧ (∀ i : Int, 0 ≤ i → i < (ls.length : Int) → LinkOk V ls i) ∧ (∀ i : Int, 0 ≤ i → i < (ls.length : Int) → 0 ≤ lC ls i) ∧ S ls.length (lC ls) ≤ 4611686018427387904 := by
  constructor
  · intro h
    exact ⟨h.v2, h.v8, h.m16, fun i a b => h.end_ a b, h.cap, h.sum⟩
  · rintro ⟨h1, h2, h3, h4, h5, h6⟩
    refine ⟨h1, h2, h3, ⟨fun i a b => ?_⟩, h5, h6⟩
    rw [net_V (by omega)]
    exact h4 i a b

theorem may_loop (V : Int) (ls : List S66) (hv : 2 ≤ V ∧ V ≤ 8) (hm : ls.length ≤ 16) (d : Nat) : ∀ (i : Nat), i ≤ ls.length → ls.length - i = d → (∀ j : Int, 0 ≤ j → j < (i : Int) → LinkOk V ls j) →
    Ev (fun k => graph_May.l0 k ls (ls.length : Int) (i : Int) V ls) (decide (GOk V ls)) := by
  induction d with
  | zero =>
    intro i hi hd hp
    obtain rfl : i = ls.length := by omega
    refine Ev.step (fun k => by rw [graph_May.l0]) ?_
    refine Ev.ite_neg (by omega) ?_
    refine Ev.bind (graph_Caps_ev V ls (by omega)) ?_
    refine Ev.bind (rate_Sum_ev _ (by rw [List.length_map]; omega)) ?_
    have : (if SumOk (ls.map (·.f2)) then (S (ls.map (·.f2)).length (rd (ls.map (·.f2))), true) else ((0 : Int), false)).2 = decide (GOk V ls) := by
      by_cases hs : SumOk (ls.map (·.f2))
      · rw [if_pos hs, decide_eq_true]
        rw [gok_iff]
        have := (caps_sum ls).1 hs
        exact ⟨hv.1, hv.2, hm, hp, this.1, this.2⟩
      · rw [if_neg hs, decide_eq_false]
        rw [gok_iff]
        rintro ⟨_, _, _, _, h5, h6⟩
        exact hs ((caps_sum ls).2 ⟨h5, h6⟩)
    rw [this]
    exact Ev.now _
  | succ d ih =>
    intro i hi hd hp
    have no : ¬ LinkOk V ls i → ¬ GOk V ls := fun h g => h (((gok_iff V ls).1 g).2.2.2.1 i (by omega) (by omega))
    refine Ev.step (fun k => by rw [graph_May.l0]) ?_
    refine Ev.ite_pos (by omega) ?_
    refine Ev.ite_pos (by omega) ?_
    refine Ev.ite_pos (by omega) ?_
    refine Ev.call (graph_Has_eq _ _ _) ?_
    by_cases ha : 0 ≤ lA ls i ∧ lA ls i < V
    · refine Ev.ite_pos (decide_eq_true ha) ?_
      refine Ev.call (graph_Has_eq _ _ _) ?_
      by_cases hb : 0 ≤ lB ls i ∧ lB ls i < V
      · refine Ev.ite_pos (decide_eq_true hb) ?_
        by_cases he : lA ls i = lB ls i
        · refine Ev.ite_pos he ?_
          rw [decide_eq_false (no (fun h => h.2.2 he))]
          exact Ev.now _
        · refine Ev.ite_neg he ?_
          have e3 : wrap64 ((i : Int) + 1) = ((i + 1 : Nat) : Int) := wrap_succ (by omega)
          refine Ev.congr (fun k => by rw [e3]) (ih (i + 1) (by omega) (by omega) ?_)
          intro j a b
          by_cases e : j = i
          · subst e; exact ⟨ha, hb, he⟩
          · exact hp j a (by omega)
      · refine Ev.ite_neg (by simp only [decide_eq_true_eq]; exact hb) ?_
        rw [decide_eq_false (no (fun h => hb h.2.1))]
        exact Ev.now _
    · refine Ev.ite_neg (by simp only [decide_eq_true_eq]; exact ha) ?_
      rw [decide_eq_false (no (fun h => ha h.1))]
      exact Ev.now _

theorem graph_May_ev (V : Int) (ls : List S66) : Ev (fun k => graph_May.f k V ls) (decide (GOk V ls)) := by
  have no : ¬ (2 ≤ V ∧ V ≤ 8 ∧ ls.length ≤ 16) → Ev (fun k => graph_May.j0 k true V ls) (decide (GOk V ls)) := by
    intro h
    rw [decide_eq_false (fun g => h ⟨g.v2, g.v8, g.m16⟩)]
    refine Ev.step (fun k => by rw [graph_May.j0]) ?_
    exact Ev.ite_pos rfl (Ev.now _)
  unfold graph_May.f
  by_cases h1 : V < 2
  · exact Ev.ite_pos h1 (no (by omega))
  · refine Ev.ite_neg h1 ?_
    by_cases h2 : V > 8
    · exact Ev.ite_pos h2 (no (by omega))
    · refine Ev.ite_neg h2 ?_
      by_cases h3 : (ls.length : Int) > 16
      · rw [decide_eq_true h3]; exact no (by omega)
      · rw [decide_eq_false h3]
        refine Ev.step (fun k => by rw [graph_May.j0]) ?_
        refine Ev.ite_neg (by simp) ?_
        exact may_loop V ls (by omega) (by omega) ls.length 0 (by omega) (by omega) (fun j a b => by omega)

theorem refmay_loop (V : Int) (ls : List S66) (hv : 2 ≤ V ∧ V ≤ 8) (hm : ls.length ≤ 16) (d : Nat) : ∀ (i : Nat), i ≤ ls.length → ls.length - i = d → (∀ j : Int, 0 ≤ j → j < (i : Int) → LinkOk V ls j ∧ 0 ≤ lC ls j) → S i (lC ls) ≤ 4611686018427387904 →
    Ev (fun k => tollbarref4_GraphMay.l0 k (S i (lC ls)) (i : Int) V ls) (decide (GOk V ls)) := by
  induction d with
  | zero =>
    intro i hi hd hp hs
    obtain rfl : i = ls.length := by omega
    refine Ev.step (fun k => by rw [tollbarref4_GraphMay.l0]) ?_
    refine Ev.ite_neg (by omega) ?_
    rw [decide_eq_true ((gok_iff V ls).2 ⟨hv.1, hv.2, hm, fun j a b => (hp j a b).1, fun j a b => (hp j a b).2, hs⟩)]
    exact Ev.now _
  | succ d ih =>
    intro i hi hd hp hs
    have h0 : 0 ≤ S i (lC ls) := S_nonneg (fun j a b => (hp j a b).2)
    have no : ¬ LinkOk V ls i → ¬ GOk V ls := fun h g => h (((gok_iff V ls).1 g).2.2.2.1 i (by omega) (by omega))
    refine Ev.step (fun k => by rw [tollbarref4_GraphMay.l0]) ?_
    refine Ev.ite_pos (by omega) ?_
    refine Ev.ite_pos (by omega) ?_
    refine Ev.call (ref_Vertex_eq _ _ _) ?_
    by_cases ha : 0 ≤ lA ls i ∧ lA ls i < V
    · refine Ev.ite_pos (decide_eq_true ha) ?_
      refine Ev.call (ref_Vertex_eq _ _ _) ?_
      by_cases hb : 0 ≤ lB ls i ∧ lB ls i < V
      · refine Ev.ite_pos (decide_eq_true hb) ?_
        by_cases he : lA ls i = lB ls i
        · refine Ev.ite_pos he ?_
          rw [decide_eq_false (no (fun h => h.2.2 he))]
          exact Ev.now _
        · refine Ev.ite_neg he ?_
          by_cases hc : lC ls i < 0
          · refine Ev.ite_pos hc ?_
            rw [decide_eq_false (fun g => by have := g.cap i (by omega) (by omega); omega)]
            exact Ev.now _
          · refine Ev.ite_neg hc ?_
            by_cases hm2 : lC ls i > 4611686018427387904 - S i (lC ls)
            · refine Ev.ite_pos (by rw [wrap_id (by omega) (by omega)]; exact hm2) ?_
              rw [decide_eq_false (fun g => by
                have := S_prefix (n := i + 1) g.cap (by omega)
                simp only [S] at this
                have := g.sum
                omega)]
              exact Ev.now _
            · refine Ev.ite_neg (by rw [wrap_id (by omega) (by omega)]; exact hm2) ?_
              have X := ih (i + 1) (by omega) (by omega) (fun j a b => by
                by_cases e : j = i
                · subst e; exact ⟨⟨ha, hb, he⟩, by omega⟩
                · exact hp j a (by omega)) (by simp only [S]; omega)
              have e2 : wrap64 (S i (lC ls) + lC ls i) = S (i + 1) (lC ls) := by rw [wrap_id (by omega) (by omega)]; rfl
              have e3 : wrap64 ((i : Int) + 1) = ((i + 1 : Nat) : Int) := wrap_succ (by omega)
              exact Ev.congr (fun k => by rw [← e2, ← e3]; rfl) X
      · refine Ev.ite_neg (by simp only [decide_eq_true_eq]; exact hb) ?_
        rw [decide_eq_false (no (fun h => hb h.2.1))]
        exact Ev.now _
    · refine Ev.ite_neg (by simp only [decide_eq_true_eq]; exact ha) ?_
      rw [decide_eq_false (no (fun h => ha h.1))]
      exact Ev.now _

theorem ref_GraphMay_ev (V : Int) (ls : List S66) : Ev (fun k => tollbarref4_GraphMay.f k V ls) (decide (GOk V ls)) := by
  have no : ¬ (2 ≤ V ∧ V ≤ 8 ∧ ls.length ≤ 16) → Ev (fun k => tollbarref4_GraphMay.j0 k true V ls) (decide (GOk V ls)) := by
    intro h
    rw [decide_eq_false (fun g => h ⟨g.v2, g.v8, g.m16⟩)]
    refine Ev.step (fun k => by rw [tollbarref4_GraphMay.j0]) ?_
    exact Ev.ite_pos rfl (Ev.now _)
  unfold tollbarref4_GraphMay.f
  by_cases h1 : V < 2
  · exact Ev.ite_pos h1 (no (by omega))
  · refine Ev.ite_neg h1 ?_
    by_cases h2 : V > 8
    · exact Ev.ite_pos h2 (no (by omega))
    · refine Ev.ite_neg h2 ?_
      by_cases h3 : (ls.length : Int) > 16
      · rw [decide_eq_true h3]; exact no (by omega)
      · rw [decide_eq_false h3]
        refine Ev.step (fun k => by rw [tollbarref4_GraphMay.j0]) ?_
        refine Ev.ite_neg (by simp) ?_
        exact refmay_loop V ls (by omega) (by omega) ls.length 0 (by omega) (by omega) (fun j a b => by omega) (by simp [S])

end Go.Proofs.Ytbbdbnikogmidaa.Q
end

section
/- What the printed functions of the layer arcs and their references tell: plain laws. -/
namespace Go.Proofs.Ytbbdbnikogmidaa.Q
open Go.RowKit Go.Proofs.YtbbdbnikogmidaaW.PrintWords Go.Proofs.YtbbdbnikogmidaaW.PrintMore Go.Proofs.Ytbbdbnikogmidaa.PAll Go.Proofs.Ytbbdbnikogmidaa.Plain
set_option linter.unusedVariables false
set_option linter.unusedSimpArgs false
attribute [local instance] Classical.propDecidable

theorem half {k : Int} (h0 : 0 ≤ k) (h1 : k < 9223372036854775807) : wrap64 (Int.tdiv k 2) = k / 2 := by
  rw [Int.tdiv_eq_ediv_of_nonneg h0, wrap_id (by omega) (by omega)]
theorem odd_ {k : Int} (h0 : 0 ≤ k) : Int.tmod k 2 = k % 2 := Int.tmod_eq_emod_of_nonneg h0

theorem arcs_Ends_eq (V : Int) (ls : List S66) (hm : ls.length ≤ 17592186044416) {k : Int} (h0 : 0 ≤ k) (h1 : k < 2 * (ls.length : Int)) :
    arcs_Ends.f V ls k = some (tail (net V ls) k, head (net V ls) k) := by
  unfold arcs_Ends.f
  rw [half h0 (by omega), odd_ h0, if_pos (by omega), if_pos (by omega)]
  unfold tail head
  by_cases h : k % 2 = 1
  · rw [if_pos h, if_pos h, if_pos h]; rfl
  · rw [if_neg h, if_neg h, if_neg h]; rfl
theorem ref_Tail_eq (V : Int) (ls : List S66) (hm : ls.length ≤ 17592186044416) {k : Int} (h0 : 0 ≤ k) (h1 : k < 2 * (ls.length : Int)) :
    tollbarref4_Tail.f V ls k = some (tail (net V ls) k) := by
  unfold tollbarref4_Tail.f
  rw [half h0 (by omega), odd_ h0]
  unfold tail
  by_cases h : k % 2 = 1
  · rw [if_neg (by omega), if_pos (by omega), if_pos (by omega), if_pos h]; rfl
  · rw [if_pos (by omega), if_pos (by omega), if_pos (by omega), if_neg h]; rfl
theorem ref_Head_eq (V : Int) (ls : List S66) (hm : ls.length ≤ 17592186044416) {k : Int} (h0 : 0 ≤ k) (h1 : k < 2 * (ls.length : Int)) :
    tollbarref4_Head.f V ls k = some (head (net V ls) k) := by
  unfold tollbarref4_Head.f
  rw [half h0 (by omega), odd_ h0]
  unfold head
  by_cases h : k % 2 = 1
  · rw [if_neg (by omega), if_pos (by omega), if_pos (by omega), if_pos h]; rfl
  · rw [if_pos (by omega), if_pos (by omega), if_pos (by omega), if_neg h]; rfl

/-- the arcs below n that begin at v -/
noncomputable def rowTo (N : Net) (v : Int) (n : Nat) : List Int := (ints n).filter (fun k => decide (tail N k = v))
noncomputable def rowOf (N : Net) (v : Int) : List Int := rowTo N v (2 * N.m)
theorem rowTo_succ (N : Net) (v : Int) (n : Nat) : rowTo N v (n + 1) = if tail N (n : Int) = v then rowTo N v n ++ [(n : Int)] else rowTo N v n := by
  unfold rowTo
  rw [ints_succ, List.filter_append]
  by_cases h : tail N (n : Int) = v
  · rw [if_pos h]; simp [h]
  · rw [if_neg h]; simp [h]
theorem rowTo_len (N : Net) (v : Int) (n : Nat) : (rowTo N v n).length ≤ n := by
  unfold rowTo
  have := List.length_filter_le (fun k => decide (tail N k = v)) (ints n)
  rw [ints_len] at this
  exact this
theorem rowOf_mem {N : Net} {v k : Int} : k ∈ rowOf N v ↔ N.arc k ∧ tail N k = v := by
  unfold rowOf rowTo Net.arc
  rw [List.mem_filter, ints_mem, decide_eq_true_eq]
  constructor
  · rintro ⟨⟨a, b⟩, c⟩; exact ⟨⟨a, by omega⟩, c⟩
  · rintro ⟨⟨a, b⟩, c⟩; exact ⟨⟨a, by omega⟩, c⟩

theorem row_loop (V : Int) (ls : List S66) (hm : ls.length ≤ 4096) (v : Int) (d : Nat) : ∀ (i : Nat), i ≤ 2 * ls.length → 2 * ls.length - i = d →
    Ev (fun k => arcs_row.l0 k v (rowTo (net V ls) v i) (2 * (ls.length : Int)) (i : Int) V ls) (rowOf (net V ls) v) := by
  induction d with
  | zero =>
    intro i hi hd
    obtain rfl : i = 2 * ls.length := by omega
    refine Ev.step (fun k => by rw [arcs_row.l0]) ?_
    refine Ev.ite_neg (by omega) ?_
    exact Ev.now _
  | succ d ih =>
    intro i hi hd
    have X := ih (i + 1) (by omega) (by omega)
    have hl := rowTo_len (net V ls) v i
    refine Ev.step (fun k => by rw [arcs_row.l0]) ?_
    refine Ev.ite_pos (by omega) ?_
    refine Ev.call (arcs_Ends_eq V ls (by omega) (by omega) (by omega)) ?_
    rw [rowTo_succ] at X
    have e3 : wrap64 ((i : Int) + 1) = ((i + 1 : Nat) : Int) := wrap_succ (by omega)
    by_cases h : tail (net V ls) (i : Int) = v
    · refine Ev.ite_pos h ?_
      refine Ev.ite_pos (by omega) ?_
      rw [if_pos h] at X
      exact Ev.congr (fun k => by rw [e3]) X
    · refine Ev.ite_neg h ?_
      rw [if_neg h] at X
      exact Ev.congr (fun k => by rw [e3]) X

theorem twice_ {ls : List S66} (hm : ls.length ≤ 4096) : wrap64 (2 * (ls.length : Int)) = 2 * (ls.length : Int) := wrap_id (by omega) (by omega)

theorem arcs_row_ev (V : Int) (ls : List S66) (hm : ls.length ≤ 4096) (v : Int) : Ev (fun k => arcs_row.f k V ls v) (rowOf (net V ls) v) := by
  unfold arcs_row.f
  rw [twice_ hm]
  exact row_loop V ls hm v (2 * ls.length) 0 (by omega) (by omega)

/-- the rows of the vertices below v, one behind the other -/
noncomputable def rowsTo (N : Net) : Nat → List Int
  | 0 => []
  | v + 1 => rowsTo N v ++ rowOf N (v : Int)
noncomputable def startAt (N : Net) (v : Int) : Int := ((rowsTo N v.toNat).length : Int)
noncomputable def starts (N : Net) : List Int := tab (N.V + 1) (startAt N)
noncomputable def order (N : Net) : List Int := rowsTo N N.V
noncomputable def heads (N : Net) : List Int := tab (2 * N.m) (head N)

theorem rowsTo_len (N : Net) (v : Nat) : (rowsTo N v).length ≤ v * (2 * N.m) := by
  induction v with
  | zero => simp [rowsTo]
  | succ v ih =>
    simp only [rowsTo, List.length_append]
    have := rowTo_len N v (2 * N.m)
    unfold rowOf
    have e : (v + 1) * (2 * N.m) = v * (2 * N.m) + 2 * N.m := Nat.succ_mul v (2 * N.m)
    omega

theorem build_heads (V : Int) (ls : List S66) (hm : ls.length ≤ 16) {r : List Int × List Int × List Int × Int} (hr : Ev (fun k => arcs_Build.l1 k V 0 V ls [] [] (heads (net V ls))) r) (d : Nat) : ∀ (i : Nat), i ≤ 2 * ls.length → 2 * ls.length - i = d →
    Ev (fun k => arcs_Build.l0 k (2 * (ls.length : Int)) (i : Int) V ls (tab i (head (net V ls)))) r := by
  induction d with
  | zero =>
    intro i hi hd
    obtain rfl : i = 2 * ls.length := by omega
    refine Ev.step (fun k => by rw [arcs_Build.l0]) ?_
    refine Ev.ite_neg (by omega) ?_
    exact hr
  | succ d ih =>
    intro i hi hd
    have X := ih (i + 1) (by omega) (by omega)
    refine Ev.step (fun k => by rw [arcs_Build.l0]) ?_
    refine Ev.ite_pos (by omega) ?_
    refine Ev.call (arcs_Ends_eq V ls (by omega) (by omega) (by omega)) ?_
    refine Ev.ite_pos (by rw [tab_len]; omega) ?_
    rw [tab_succ] at X
    have e3 : wrap64 ((i : Int) + 1) = ((i + 1 : Nat) : Int) := wrap_succ (by omega)
    exact Ev.congr (fun k => by rw [e3]) X

theorem build_rows (V : Int) (ls : List S66) (hv : 0 ≤ V ∧ V ≤ 8) (hm : ls.length ≤ 16) (hs : List Int) (d : Nat) : ∀ (i : Nat), (i : Int) ≤ V → V.toNat - i = d →
    Ev (fun k => arcs_Build.l1 k V (i : Int) V ls (tab i (startAt (net V ls))) (rowsTo (net V ls) i) hs) (starts (net V ls), order (net V ls), hs, 0) := by
  induction d with
  | zero =>
    intro i hi hd
    have hiV : (i : Int) = V := by omega
    refine Ev.step (fun k => by rw [arcs_Build.l1]) ?_
    refine Ev.ite_neg (by omega) ?_
    refine Ev.ite_pos (by rw [tab_len]; omega) ?_
    have hV : (net V ls).V = i := by simp only [net]; omega
    have e1 : tab i (startAt (net V ls)) ++ [((rowsTo (net V ls) i).length : Int)] = starts (net V ls) := by
      unfold starts; rw [hV, tab_succ]; simp [startAt]
    have e2 : rowsTo (net V ls) i = order (net V ls) := by unfold order; rw [hV]
    rw [e1, e2]
    exact Ev.now _
  | succ d ih =>
    intro i hi hd
    have X := ih (i + 1) (by omega) (by omega)
    have hl := rowsTo_len (net V ls) i
    have hl2 := rowTo_len (net V ls) i (2 * (net V ls).m)
    have hl3 : i * (2 * (net V ls).m) ≤ 8 * 32 := Nat.mul_le_mul (by omega) (by rw [net_m]; omega)
    have hl4 : (net V ls).m ≤ 16 := by rw [net_m]; exact hm
    refine Ev.step (fun k => by rw [arcs_Build.l1]) ?_
    refine Ev.ite_pos (by omega) ?_
    refine Ev.ite_pos (by rw [tab_len]; omega) ?_
    refine Ev.bind (arcs_row_ev V ls (by omega) (i : Int)) ?_
    refine Ev.ite_pos (by unfold rowOf; omega) ?_
    rw [tab_succ] at X
    have e3 : wrap64 ((i : Int) + 1) = ((i + 1 : Nat) : Int) := wrap_succ (by omega)
    have e4 : startAt (net V ls) (i : Int) = ((rowsTo (net V ls) i).length : Int) := by simp [startAt]
    rw [e4] at X
    exact Ev.congr (fun k => by rw [e3]; rfl) X

theorem arcs_Build_ev (V : Int) (ls : List S66) : Ev (fun k => arcs_Build.f k V ls) (if GOk V ls then (starts (net V ls), order (net V ls), heads (net V ls), 0) else ([], [], [], 500)) := by
  unfold arcs_Build.f
  refine Ev.bind (graph_May_ev V ls) ?_
  by_cases h : GOk V ls
  · refine Ev.ite_pos (decide_eq_true h) ?_
    rw [if_pos h, twice_ (by have := h.m16; omega)]
    refine build_heads V ls h.m16 ?_ (2 * ls.length) 0 (by omega) (by omega)
    exact build_rows V ls ⟨by have := h.v2; omega, h.v8⟩ h.m16 _ V.toNat 0 (by have := h.v2; omega) (by omega)
  · refine Ev.ite_neg (by simp only [decide_eq_true_eq]; exact h) ?_
    rw [if_neg h]
    exact Ev.now _

theorem arcs_Row_ev (V : Int) (ls : List S66) (v : Int) : Ev (fun k => arcs_Row.f k V ls v) (if GOk V ls ∧ (0 ≤ v ∧ v < V) then (rowOf (net V ls) v, 0) else ([], 500)) := by
  unfold arcs_Row.f
  refine Ev.bind (graph_May_ev V ls) ?_
  by_cases h : GOk V ls
  · refine Ev.ite_pos (decide_eq_true h) ?_
    refine Ev.call (graph_Has_eq _ _ _) ?_
    by_cases hv : 0 ≤ v ∧ v < V
    · refine Ev.ite_pos (decide_eq_true hv) ?_
      rw [if_pos ⟨h, hv⟩]
      refine Ev.bind (arcs_row_ev V ls (by have := h.m16; omega) v) ?_
      exact Ev.now _
    · refine Ev.ite_neg (by simp only [decide_eq_true_eq]; exact hv) ?_
      rw [if_neg (fun g => hv g.2)]
      exact Ev.now _
  · refine Ev.ite_neg (by simp only [decide_eq_true_eq]; exact h) ?_
    rw [if_neg (fun g => h g.1)]
    exact Ev.now _

/-! ### what the rows are -/
theorem rowsTo_prefix (N : Net) {v w : Nat} (h : v ≤ w) : ∃ t, rowsTo N w = rowsTo N v ++ t := by
  induction w with
  | zero => obtain rfl : v = 0 := by omega
            exact ⟨[], by simp⟩
  | succ w ih =>
    by_cases e : v = w + 1
    · subst e; exact ⟨[], by simp⟩
    · obtain ⟨t, ht⟩ := ih (by omega)
      exact ⟨t ++ rowOf N (w : Int), by simp only [rowsTo]; rw [ht, List.append_assoc]⟩

theorem starts_len (N : Net) : (starts N).length = N.V + 1 := tab_len _ _
theorem rd_starts (N : Net) {v : Int} (h0 : 0 ≤ v) (h1 : v ≤ (N.V : Int)) : rd (starts N) v = startAt N v := rd_tab h0 (by omega)
theorem heads_len (N : Net) : (heads N).length = 2 * N.m := tab_len _ _
theorem rd_heads (N : Net) {k : Int} (h0 : 0 ≤ k) (h1 : k < 2 * (N.m : Int)) : rd (heads N) k = head N k := rd_tab h0 (by omega)

/-- the piece of Order that belongs to v -/
theorem order_row (N : Net) {v : Int} (h0 : 0 ≤ v) (h1 : v < (N.V : Int)) :
    startAt N v ≤ startAt N (v + 1) ∧ startAt N (v + 1) ≤ ((order N).length : Int) ∧ 0 ≤ startAt N v ∧ ((order N).take (startAt N (v + 1)).toNat).drop (startAt N v).toNat = rowOf N v ∧ startAt N (v + 1) = startAt N v + ((rowOf N v).length : Int) := by
  obtain ⟨t, ht⟩ := rowsTo_prefix N (v := v.toNat + 1) (w := N.V) (by omega)
  have e1 : (v + 1).toNat = v.toNat + 1 := by omega
  have e2 : rowsTo N (v.toNat + 1) = rowsTo N v.toNat ++ rowOf N v := by
    simp only [rowsTo]; rw [show ((v.toNat : Nat) : Int) = v by omega]
  unfold order startAt
  rw [ht, e1, e2]
  simp only [List.length_append, Int.toNat_natCast]
  refine ⟨by omega, by omega, by omega, ?_, by omega⟩
  rw [List.take_append_of_le_length (by simp), List.take_of_length_le (by simp), List.drop_append_of_le_length (Nat.le_refl _), List.drop_length, List.nil_append]

end Go.Proofs.Ytbbdbnikogmidaa.Q
end

section
/- Rows, builds, comparisons, copies: what the printed functions tell: plain laws. -/
namespace Go.Proofs.Ytbbdbnikogmidaa.Q
open Go.RowKit Go.Proofs.YtbbdbnikogmidaaW.PrintWords Go.Proofs.YtbbdbnikogmidaaW.PrintMore Go.Proofs.Ytbbdbnikogmidaa.PAll Go.Proofs.Ytbbdbnikogmidaa.Plain
set_option linter.unusedVariables false
set_option linter.unusedSimpArgs false
attribute [local instance] Classical.propDecidable

theorem refrow_loop (V : Int) (ls : List S66) (hm : ls.length ≤ 4096) (v : Int) (d : Nat) : ∀ (i : Nat), i ≤ 2 * ls.length → 2 * ls.length - i = d →
    Ev (fun k => tollbarref4_Row.l0 k v (rowTo (net V ls) v i) (i : Int) V ls) (rowOf (net V ls) v, 0) := by
  induction d with
  | zero =>
    intro i hi hd
    obtain rfl : i = 2 * ls.length := by omega
    refine Ev.step (fun k => by rw [tollbarref4_Row.l0]) ?_
    rw [twice_ hm]
    refine Ev.ite_neg (by omega) ?_
    exact Ev.now _
  | succ d ih =>
    intro i hi hd
    have X := ih (i + 1) (by omega) (by omega)
    have hl := rowTo_len (net V ls) v i
    refine Ev.step (fun k => by rw [tollbarref4_Row.l0]) ?_
    rw [twice_ hm]
    refine Ev.ite_pos (by omega) ?_
    refine Ev.call (ref_Tail_eq V ls (by omega) (by omega) (by omega)) ?_
    rw [rowTo_succ] at X
    have e3 : wrap64 ((i : Int) + 1) = ((i + 1 : Nat) : Int) := wrap_succ (by omega)
    by_cases h : tail (net V ls) (i : Int) = v
    · refine Ev.ite_pos h ?_
      refine Ev.ite_pos (by omega) ?_
      rw [if_pos h] at X
      exact Ev.congr (fun k => by rw [e3]) X
    · refine Ev.ite_neg h ?_
      rw [if_neg h] at X
      exact Ev.congr (fun k => by rw [e3]) X

theorem ref_Row_ev (V : Int) (ls : List S66) (v : Int) : Ev (fun k => tollbarref4_Row.f k V ls v) (if GOk V ls ∧ (0 ≤ v ∧ v < V) then (rowOf (net V ls) v, 0) else ([], 500)) := by
  have no : ¬ (GOk V ls ∧ (0 ≤ v ∧ v < V)) → Ev (fun k => tollbarref4_Row.j0 k v true V ls) (if GOk V ls ∧ (0 ≤ v ∧ v < V) then (rowOf (net V ls) v, 0) else ([], 500)) := by
    intro h
    rw [if_neg h]
    refine Ev.step (fun k => by rw [tollbarref4_Row.j0]) ?_
    exact Ev.ite_pos rfl (Ev.now _)
  unfold tollbarref4_Row.f
  refine Ev.bind (ref_GraphMay_ev V ls) ?_
  by_cases h : GOk V ls
  · refine Ev.ite_pos (decide_eq_true h) ?_
    refine Ev.call (ref_Vertex_eq _ _ _) ?_
    by_cases hv : 0 ≤ v ∧ v < V
    · rw [decide_eq_true hv, if_pos ⟨h, hv⟩]
      refine Ev.step (fun k => by rw [tollbarref4_Row.j0]) ?_
      refine Ev.ite_neg (by simp) ?_
      exact refrow_loop V ls (by have := h.m16; omega) v (2 * ls.length) 0 (by omega) (by omega)
    · rw [decide_eq_false hv]
      exact no (fun g => hv g.2)
  · refine Ev.ite_neg (by simp only [decide_eq_true_eq]; exact h) ?_
    exact no (fun g => h g.1)

theorem refbuild_heads (V : Int) (ls : List S66) (hm : ls.length ≤ 16) {r : List Int × List Int × List Int × Int} (hr : Ev (fun k => tollbarref4_Build.l1 k 0 V ls [] [] (heads (net V ls))) r) (d : Nat) : ∀ (i : Nat), i ≤ 2 * ls.length → 2 * ls.length - i = d →
    Ev (fun k => tollbarref4_Build.l0 k (i : Int) V ls (tab i (head (net V ls)))) r := by
  induction d with
  | zero =>
    intro i hi hd
    obtain rfl : i = 2 * ls.length := by omega
    refine Ev.step (fun k => by rw [tollbarref4_Build.l0]) ?_
    rw [twice_ (by omega)]
    refine Ev.ite_neg (by omega) ?_
    exact hr
  | succ d ih =>
    intro i hi hd
    have X := ih (i + 1) (by omega) (by omega)
    refine Ev.step (fun k => by rw [tollbarref4_Build.l0]) ?_
    rw [twice_ (by omega)]
    refine Ev.ite_pos (by omega) ?_
    refine Ev.call (ref_Head_eq V ls (by omega) (by omega) (by omega)) ?_
    refine Ev.ite_pos (by rw [tab_len]; omega) ?_
    rw [tab_succ] at X
    have e3 : wrap64 ((i : Int) + 1) = ((i + 1 : Nat) : Int) := wrap_succ (by omega)
    exact Ev.congr (fun k => by rw [e3]) X

theorem refbuild_rows (V : Int) (ls : List S66) (hg : GOk V ls) (hs : List Int) (d : Nat) : ∀ (i : Nat), (i : Int) ≤ V → V.toNat - i = d →
    Ev (fun k => tollbarref4_Build.l1 k (i : Int) V ls (tab i (startAt (net V ls))) (rowsTo (net V ls) i) hs) (starts (net V ls), order (net V ls), hs, 0) := by
  have hv := hg.v8
  have hv2 := hg.v2
  have hm := hg.m16
  induction d with
  | zero =>
    intro i hi hd
    have hiV : (i : Int) = V := by omega
    refine Ev.step (fun k => by rw [tollbarref4_Build.l1]) ?_
    refine Ev.ite_neg (by omega) ?_
    refine Ev.ite_pos (by rw [tab_len]; omega) ?_
    have hV : (net V ls).V = i := by simp only [net]; omega
    have e1 : tab i (startAt (net V ls)) ++ [((rowsTo (net V ls) i).length : Int)] = starts (net V ls) := by
      unfold starts; rw [hV, tab_succ]; simp [startAt]
    have e2 : rowsTo (net V ls) i = order (net V ls) := by unfold order; rw [hV]
    rw [e1, e2]
    exact Ev.now _
  | succ d ih =>
    intro i hi hd
    have X := ih (i + 1) (by omega) (by omega)
    have hl := rowsTo_len (net V ls) i
    have hl2 := rowTo_len (net V ls) i (2 * (net V ls).m)
    have hl3 : i * (2 * (net V ls).m) ≤ 8 * 32 := Nat.mul_le_mul (by omega) (by rw [net_m]; omega)
    have hl4 : (net V ls).m ≤ 16 := by rw [net_m]; exact hm
    refine Ev.step (fun k => by rw [tollbarref4_Build.l1]) ?_
    refine Ev.ite_pos (by omega) ?_
    refine Ev.ite_pos (by rw [tab_len]; omega) ?_
    have R := ref_Row_ev V ls (i : Int)
    rw [if_pos ⟨hg, by omega, by omega⟩] at R
    refine Ev.bind R ?_
    refine Ev.ite_pos (by unfold rowOf; show _ + (rowTo _ _ _).length < _; omega) ?_
    rw [tab_succ] at X
    have e3 : wrap64 ((i : Int) + 1) = ((i + 1 : Nat) : Int) := wrap_succ (by omega)
    have e4 : startAt (net V ls) (i : Int) = ((rowsTo (net V ls) i).length : Int) := by simp [startAt]
    rw [e4] at X
    exact Ev.congr (fun k => by rw [e3]; rfl) X

theorem ref_Build_ev (V : Int) (ls : List S66) : Ev (fun k => tollbarref4_Build.f k V ls) (if GOk V ls then (starts (net V ls), order (net V ls), heads (net V ls), 0) else ([], [], [], 500)) := by
  unfold tollbarref4_Build.f
  refine Ev.bind (ref_GraphMay_ev V ls) ?_
  by_cases h : GOk V ls
  · refine Ev.ite_pos (decide_eq_true h) ?_
    rw [if_pos h]
    refine refbuild_heads V ls h.m16 ?_ (2 * ls.length) 0 (by omega) (by omega)
    exact refbuild_rows V ls h _ V.toNat 0 (by have := h.v2; omega) (by omega)
  · refine Ev.ite_neg (by simp only [decide_eq_true_eq]; exact h) ?_
    rw [if_neg h]
    exact Ev.now _

theorem same_loop (xs ys : List Int) (hl : xs.length = ys.length) (hx : xs.length ≤ 17592186044416) (d : Nat) : ∀ (i : Nat), i ≤ xs.length → xs.length - i = d → (∀ j : Int, 0 ≤ j → j < (i : Int) → rd xs j = rd ys j) →
    Ev (fun k => tollbarref19_SameInts.l0 k xs ys (i : Int)) (decide (xs = ys)) := by
  induction d with
  | zero =>
    intro i hi hd hp
    obtain rfl : i = xs.length := by omega
    refine Ev.step (fun k => by rw [tollbarref19_SameInts.l0]) ?_
    refine Ev.ite_neg (by omega) ?_
    rw [decide_eq_true (rd_ext hl hp)]
    exact Ev.now _
  | succ d ih =>
    intro i hi hd hp
    refine Ev.step (fun k => by rw [tollbarref19_SameInts.l0]) ?_
    refine Ev.ite_pos (by omega) ?_
    refine Ev.ite_pos (by omega) ?_
    refine Ev.ite_pos (by omega) ?_
    by_cases h : rd xs i = rd ys i
    · refine Ev.ite_pos h ?_
      have X := ih (i + 1) (by omega) (by omega) (fun j a b => by
        by_cases e : j = i
        · subst e; exact h
        · exact hp j a (by omega))
      have e3 : wrap64 ((i : Int) + 1) = ((i + 1 : Nat) : Int) := wrap_succ (by omega)
      exact Ev.congr (fun k => by rw [e3]) X
    · refine Ev.ite_neg h ?_
      rw [decide_eq_false (fun e => h (by rw [e]))]
      exact Ev.now _

theorem ref_SameInts_ev (xs ys : List Int) (hx : xs.length ≤ 17592186044416) : Ev (fun k => tollbarref19_SameInts.f k xs ys) (decide (xs = ys)) := by
  unfold tollbarref19_SameInts.f
  by_cases hl : xs.length = ys.length
  · refine Ev.ite_pos (by omega) ?_
    exact same_loop xs ys hl hx xs.length 0 (by omega) (by omega) (fun j a b => by omega)
  · refine Ev.ite_neg (by omega) ?_
    rw [decide_eq_false (fun e => hl (by rw [e]))]
    exact Ev.now _

theorem SameInts_ev (xs ys : List Int) (hx : xs.length ≤ 17592186044416) : Ev (fun k => tollbarlaw0_SameInts.f k xs ys) (decide (xs = ys)) := by
  unfold tollbarlaw0_SameInts.f
  exact Ev.bind (ref_SameInts_ev xs ys hx) (Ev.now _)
theorem SameInts_self (xs : List Int) (hx : xs.length ≤ 17592186044416) : Ev (fun k => tollbarlaw0_SameInts.f k xs xs) true := by
  have := SameInts_ev xs xs hx
  rwa [decide_eq_true rfl] at this

theorem SameArcs_self (xs ys zs : List Int) (hx : xs.length ≤ 17592186044416) (hy : ys.length ≤ 17592186044416) (hz : zs.length ≤ 17592186044416) : Ev (fun k => tollbarlaw0_SameArcs.f k xs ys zs xs ys zs) true := by
  unfold tollbarlaw0_SameArcs.f
  refine Ev.bind (SameInts_self xs hx) (Ev.ite_pos rfl ?_)
  refine Ev.bind (SameInts_self ys hy) (Ev.ite_pos rfl ?_)
  exact Ev.bind (SameInts_self zs hz) (Ev.now _)

theorem spoil_loop (n : Nat) (hx : n ≤ 17592186044416) (d : Nat) : ∀ (i : Nat) (xs : List Int), xs.length = n → i ≤ n → n - i = d →
    ∃ r, Ev (fun k => tollbarlaw0_SpoilInts.l0 k xs (i : Int)) r := by
  induction d with
  | zero =>
    intro i xs hl hi hd
    refine ⟨xs, Ev.step (fun k => by rw [tollbarlaw0_SpoilInts.l0]) ?_⟩
    refine Ev.ite_neg (by omega) ?_
    exact Ev.now _
  | succ d ih =>
    intro i xs hl hi hd
    obtain ⟨r, X⟩ := ih (i + 1) (xs.set ((i : Int) : Int).toNat (wrap64 ((-9) - (Int.tmod (rd xs (i : Int)) 1000)))) (by rw [List.length_set]; exact hl) (by omega) (by omega)
    refine ⟨r, Ev.step (fun k => by rw [tollbarlaw0_SpoilInts.l0]) ?_⟩
    refine Ev.ite_pos (by omega) ?_
    refine Ev.ite_pos (by omega) ?_
    have e3 : wrap64 ((i : Int) + 1) = ((i + 1 : Nat) : Int) := wrap_succ (by omega)
    exact Ev.congr (fun k => by rw [e3]) X
theorem SpoilInts_ev (xs : List Int) (hx : xs.length ≤ 17592186044416) : ∃ r, Ev (fun k => tollbarlaw0_SpoilInts.f k xs) r := spoil_loop xs.length hx xs.length 0 xs rfl (by omega) (by omega)

theorem CopyGraph_eq (V : Int) (ls : List S66) (hx : ls.length < 5864062014805) : tollbarlaw0_CopyGraph.f V ls = some (V, ls) := by
  unfold tollbarlaw0_CopyGraph.f
  simp only [Option.bind_some]
  rw [if_pos (by simpa using hx)]
  rfl

theorem samegraph_loop (V : Int) (ls : List S66) (hx : ls.length ≤ 17592186044416) (d : Nat) : ∀ (i : Nat), i ≤ ls.length → ls.length - i = d →
    Ev (fun k => tollbarlaw0_SameGraph.l0 k (i : Int) V ls V ls) true := by
  induction d with
  | zero =>
    intro i hi hd
    refine Ev.step (fun k => by rw [tollbarlaw0_SameGraph.l0]) ?_
    refine Ev.ite_neg (by omega) ?_
    exact Ev.now _
  | succ d ih =>
    intro i hi hd
    have X := ih (i + 1) (by omega) (by omega)
    refine Ev.step (fun k => by rw [tollbarlaw0_SameGraph.l0]) ?_
    refine Ev.ite_pos (by omega) ?_
    refine Ev.ite_pos (by omega) ?_
    refine Ev.ite_pos (by omega) ?_
    refine Ev.ite_neg (by simp) ?_
    have e3 : wrap64 ((i : Int) + 1) = ((i + 1 : Nat) : Int) := wrap_succ (by omega)
    exact Ev.congr (fun k => by rw [e3]) X
theorem SameGraph_self (V : Int) (ls : List S66) (hx : ls.length ≤ 17592186044416) : Ev (fun k => tollbarlaw0_SameGraph.f k V ls V ls) true := by
  unfold tollbarlaw0_SameGraph.f
  refine Ev.ite_pos rfl ?_
  have e : ((ls.length : Int) != (ls.length : Int)) = false := by simp
  rw [e]
  refine Ev.step (fun k => by rw [tollbarlaw0_SameGraph.j0]) ?_
  refine Ev.ite_neg (by simp) ?_
  exact samegraph_loop V ls hx ls.length 0 (by omega) (by omega)

theorem order_len (N : Net) : (order N).length ≤ N.V * (2 * N.m) := rowsTo_len N N.V

end Go.Proofs.Ytbbdbnikogmidaa.Q
end

section
/- Rows of arcs: plain lemmas for the laws of layer 5. -/
namespace Go.Proofs.Ytbbdbnikogmidaa.Q
open Go.RowKit Go.Proofs.YtbbdbnikogmidaaW.PrintWords Go.Proofs.YtbbdbnikogmidaaW.PrintMore Go.Proofs.Ytbbdbnikogmidaa.PAll Go.Proofs.Ytbbdbnikogmidaa.Plain
set_option linter.unusedVariables false
set_option linter.unusedSimpArgs false
attribute [local instance] Classical.propDecidable

theorem awake5 : Ev (fun k => tollbarlaw5_awake.f k) true := Ev.of tollbarlaw5_awake.mono (k := 100) (by decide +kernel)

theorem Num_eq (x : Int) : tollbarlaw0_Num.f x = some x := rfl

theorem order_small {V : Int} {ls : List S66} (h : GOk V ls) {v : Nat} (hv : (v : Int) ≤ V) : (rowsTo (net V ls) v).length ≤ 256 := by
  have h1 := rowsTo_len (net V ls) v
  have h2 := h.v8
  have h3 := h.m16
  have h4 : v * (2 * (net V ls).m) ≤ 8 * 32 := Nat.mul_le_mul (by omega) (by rw [net_m]; omega)
  omega

theorem rowOf_small {V : Int} {ls : List S66} (h : GOk V ls) (v : Int) : (rowOf (net V ls) v).length ≤ 32 := by
  have h1 := rowTo_len (net V ls) v (2 * (net V ls).m)
  have h3 := h.m16
  rw [net_m] at h1
  unfold rowOf
  rw [net_m]
  omega

/-! ### each arc stands once -/
/-- how often x stands in a row -/
theorem rowOf_count (N : Net) (v : Int) {k : Int} (hk : N.arc k) : (rowOf N v).count k = if tail N k = v then 1 else 0 := by
  unfold Net.arc at hk
  have key : ∀ n : Nat, (rowTo N v n).count k = if (k < (n : Int) ∧ tail N k = v) then 1 else 0 := by
    intro n
    induction n with
    | zero => simp [rowTo, ints]; omega
    | succ n ih =>
      rw [rowTo_succ]
      by_cases h : tail N (n : Int) = v
      · rw [if_pos h, List.count_append, ih]
        by_cases e : k = (n : Int)
        · subst e
          simp [h]
          omega
        · have e2 : ¬ (n : Int) = k := fun g => e g.symm
          have e4 : List.count k [(n : Int)] = 0 := by simp [e2]
          rw [e4]
          by_cases g : k < (n : Int) ∧ tail N k = v
          · rw [if_pos g, if_pos ⟨by omega, g.2⟩]
          · rw [if_neg g, if_neg (fun q => g ⟨by omega, q.2⟩)]
      · rw [if_neg h, ih]
        by_cases e : k = (n : Int)
        · subst e
          simp [h]
        · by_cases g : k < (n : Int) ∧ tail N k = v
          · rw [if_pos g, if_pos ⟨by omega, g.2⟩]
          · rw [if_neg g, if_neg (fun q => g ⟨by omega, q.2⟩)]
  unfold rowOf
  rw [key]
  by_cases g : tail N k = v
  · rw [if_pos ⟨by omega, g⟩, if_pos g]
  · rw [if_neg (fun q => g q.2), if_neg g]

theorem rowsTo_count (N : Net) {k : Int} (hk : N.arc k) (h0 : 0 ≤ tail N k) (n : Nat) : (rowsTo N n).count k = if tail N k < (n : Int) then 1 else 0 := by
  induction n with
  | zero => simp [rowsTo]; omega
  | succ n ih =>
    simp only [rowsTo, List.count_append]
    rw [ih, rowOf_count N n hk]
    by_cases e : tail N k = (n : Int)
    · rw [if_neg (by omega), if_pos e, if_pos (by omega)]
    · rw [if_neg e]
      by_cases g : tail N k < (n : Int)
      · rw [if_pos g, if_pos (by omega)]
      · rw [if_neg g, if_neg (by omega)]

theorem tail_vert {V : Int} {ls : List S66} (h : GOk V ls) {k : Int} (hk : (net V ls).arc k) : 0 ≤ tail (net V ls) k ∧ tail (net V ls) k < V := by
  unfold Net.arc at hk
  rw [net_m] at hk
  have h1 := h.end_ (i := k / 2) (by omega) (by omega)
  unfold tail
  split
  · exact h1.2.1
  · exact h1.1
theorem head_vert {V : Int} {ls : List S66} (h : GOk V ls) {k : Int} (hk : (net V ls).arc k) : 0 ≤ head (net V ls) k ∧ head (net V ls) k < V := by
  unfold Net.arc at hk
  rw [net_m] at hk
  have h1 := h.end_ (i := k / 2) (by omega) (by omega)
  unfold head
  split
  · exact h1.1
  · exact h1.2.1

theorem order_count {V : Int} {ls : List S66} (h : GOk V ls) {k : Int} (hk : (net V ls).arc k) : (order (net V ls)).count k = 1 := by
  have h1 := tail_vert h hk
  have hV := net_V (V := V) (ls := ls) (by have := h.v2; omega)
  unfold order
  rw [rowsTo_count _ hk h1.1, if_pos (by omega)]

theorem order_arc {V : Int} {ls : List S66} {k : Int} (hk : k ∈ order (net V ls)) : (net V ls).arc k := by
  unfold order at hk
  generalize (net V ls).V = n at hk
  induction n with
  | zero => simp [rowsTo] at hk
  | succ n ih =>
    simp only [rowsTo, List.mem_append] at hk
    rcases hk with hk | hk
    · exact ih hk
    · exact (rowOf_mem.1 hk).1

/-- the sum of how often each number stands there is the length -/
theorem S_count (m : Nat) : ∀ (l : List Int), (∀ x ∈ l, 0 ≤ x ∧ x < (m : Int)) → S m (fun k => (l.count k : Int)) = (l.length : Int)
  | [], _ => by simp [S_zero]
  | x :: l, h => by
    have h1 := S_count m l (fun y hy => h y (List.mem_cons_of_mem _ hy))
    have h2 := h x List.mem_cons_self
    have e : S m (fun k => ((x :: l).count k : Int)) = S m (fun k => (l.count k : Int) + (if k = x then 1 else 0)) := by
      refine S_congr (fun i _ _ => ?_)
      rw [List.count_cons]
      by_cases e : i = x
      · subst e; simp
      · have : ¬ x = i := fun g => e g.symm
        simp [e, this]
    rw [e, S_add, h1, S_single _ _ _ h2.1 h2.2]
    simp

theorem S_one (m : Nat) : S m (fun _ => 1) = (m : Int) := by
  induction m with
  | zero => rfl
  | succ m ih => simp only [S]; rw [ih]; omega

theorem order_length {V : Int} {ls : List S66} (h : GOk V ls) : (order (net V ls)).length = 2 * ls.length := by
  have h1 := S_count (2 * ls.length) (order (net V ls)) (fun x hx => by
    have := order_arc hx
    unfold Net.arc at this
    rw [net_m] at this
    omega)
  have h2 : S (2 * ls.length) (fun k => ((order (net V ls)).count k : Int)) = S (2 * ls.length) (fun _ => 1) :=
    S_congr (fun i a b => by rw [order_count h (by unfold Net.arc; rw [net_m]; omega)]; rfl)
  rw [h2, S_one] at h1
  omega
end Go.Proofs.Ytbbdbnikogmidaa.Q
end
