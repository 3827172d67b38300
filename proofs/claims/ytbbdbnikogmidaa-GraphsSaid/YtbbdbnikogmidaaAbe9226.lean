/- Texts of this claim, one behind the other: QGraphs. -/
import Derived.Test.YtbbdbnikogmidaaAfdd642
import Derived.Test.YtbbdbnikogmidaaA98f31f
import Derived.Test.YtbbdbnikogmidaaA505a8d
import Derived.Test.YtbbdbnikogmidaaA6aa69b
import Derived.Test.YtbbdbnikogmidaaA5b43d8
section
/- What the law Graphs leans on, and the law itself on what its printed walk tells: plain. -/
namespace Go.Proofs.Ytbbdbnikogmidaa.Q
open Go.RowKit Go.Proofs.YtbbdbnikogmidaaW.PrintWords Go.Proofs.YtbbdbnikogmidaaW.PrintMore Go.Proofs.Ytbbdbnikogmidaa.PAll Go.Proofs.Ytbbdbnikogmidaa.Plain
set_option linter.unusedVariables false
set_option linter.unusedSimpArgs false
attribute [local instance] Classical.propDecidable

theorem S_prefix {f : Int → Int} {n m : Nat} (h : ∀ i : Int, 0 ≤ i → i < (m : Int) → 0 ≤ f i) (hn : n ≤ m) : S n f ≤ S m f := by
  induction m with
  | zero => obtain rfl : n = 0 := by omega
            exact Int.le_refl _
  | succ m ih =>
    by_cases e : n = m + 1
    · subst e; exact Int.le_refl _
    · have h1 := ih (fun i a b => h i a (by omega)) (by omega)
      have h2 := h (m : Int) (by omega) (by omega)
      simp only [S]
      omega

theorem rate_Is_eq (x : Int) : rate_Is.f x = some (decide (0 ≤ x ∧ x ≤ 4611686018427387904)) := by
  unfold rate_Is.f
  by_cases h : x ≥ 0
  · rw [if_pos h]; congr 1; simp; omega
  · rw [if_neg h]; congr 1; simp; omega

def SumOk (xs : List Int) : Prop := (∀ i : Int, 0 ≤ i → i < (xs.length : Int) → 0 ≤ rd xs i) ∧ S xs.length (rd xs) ≤ 4611686018427387904

theorem sum_loop (xs : List Int) (hx : xs.length ≤ 4611686018427387904) (d : Nat) : ∀ (i : Nat), i ≤ xs.length → xs.length - i = d → (∀ j : Int, 0 ≤ j → j < (i : Int) → 0 ≤ rd xs j) → S i (rd xs) ≤ 4611686018427387904 →
    Ev (fun k => rate_Sum.l0 k (S i (rd xs)) xs (xs.length : Int) (i : Int)) (if SumOk xs then (S xs.length (rd xs), true) else (0, false)) := by
  induction d with
  | zero =>
    intro i hi hd hp hs
    obtain rfl : i = xs.length := by omega
    refine Ev.step (fun k => by rw [rate_Sum.l0]) ?_
    refine Ev.ite_neg (by omega) ?_
    rw [if_pos ⟨hp, hs⟩]
    exact Ev.now _
  | succ d ih =>
    intro i hi hd hp hs
    have h0 : 0 ≤ S i (rd xs) := S_nonneg hp
    refine Ev.step (fun k => by rw [rate_Sum.l0]) ?_
    refine Ev.ite_pos (by omega) ?_
    refine Ev.ite_pos (by omega) ?_
    refine Ev.ite_pos (by omega) ?_
    refine Ev.call (rate_Is_eq _) ?_
    by_cases hr : 0 ≤ rd xs i ∧ rd xs i ≤ 4611686018427387904
    · refine Ev.ite_pos (decide_eq_true hr) ?_
      by_cases hm : rd xs i > 4611686018427387904 - S i (rd xs)
      · refine Ev.ite_pos (by rw [wrap_id (by omega) (by omega)]; exact hm) ?_
        rw [if_neg]
        · exact Ev.now _
        · intro ho
          have := S_prefix (n := i + 1) ho.1 (by omega)
          simp only [S] at this
          have := ho.2
          omega
      · refine Ev.ite_neg (by rw [wrap_id (by omega) (by omega)]; exact hm) ?_
        have e2 : wrap64 (S i (rd xs) + rd xs i) = S (i + 1) (rd xs) := by rw [wrap_id (by omega) (by omega)]; rfl
        have e3 : wrap64 ((i : Int) + 1) = ((i + 1 : Nat) : Int) := wrap_succ (by omega)
        refine Ev.congr (fun k => by rw [e2, e3]) (ih (i + 1) (by omega) (by omega) ?_ ?_)
        · intro j a b
          by_cases e : j = i
          · subst e; exact hr.1
          · exact hp j a (by omega)
        · simp only [S]; omega
    · refine Ev.ite_neg (by simp only [decide_eq_true_eq]; exact hr) ?_
      rw [if_neg]
      · exact Ev.now _
      · intro ho
        have h1 := ho.1 i (by omega) (by omega)
        have := S_one_le ho.1 (k := (i : Int)) (by omega) (by omega)
        have := ho.2
        exact hr ⟨h1, by omega⟩

theorem rate_Sum_ev (xs : List Int) (hx : xs.length ≤ 4611686018427387904) : Ev (fun k => rate_Sum.f k xs) (if SumOk xs then (S xs.length (rd xs), true) else (0, false)) :=
  sum_loop xs hx xs.length 0 (by omega) (by omega) (fun j a b => by omega) (by simp [S])

def lA (ls : List S66) (i : Int) : Int := (rd_T66 ls i).f0

def lB (ls : List S66) (i : Int) : Int := (rd_T66 ls i).f1

def lC (ls : List S66) (i : Int) : Int := (rd_T66 ls i).f2

def net (V : Int) (ls : List S66) : Net := { V := V.toNat, m := ls.length, a := lA ls, b := lB ls }

structure GOk (V : Int) (ls : List S66) : Prop where
  v2 : 2 ≤ V
  v8 : V ≤ 8
  m16 : ls.length ≤ 16
  ends : (net V ls).ok
  cap : ∀ i : Int, 0 ≤ i → i < (ls.length : Int) → 0 ≤ lC ls i
  sum : S ls.length (lC ls) ≤ 4611686018427387904

theorem net_V {V : Int} {ls : List S66} (h : 0 ≤ V) : ((net V ls).V : Int) = V := by simp only [net]; omega

theorem GOk.end_ {V : Int} {ls : List S66} (h : GOk V ls) {i : Int} (h0 : 0 ≤ i) (h1 : i < (ls.length : Int)) : (0 ≤ lA ls i ∧ lA ls i < V) ∧ (0 ≤ lB ls i ∧ lB ls i < V) ∧ lA ls i ≠ lB ls i := by
  have := h.ends.h i h0 h1
  have e := net_V (V := V) (ls := ls) (by have := h.v2; omega)
  rw [e] at this
  exact this

theorem rd_map_cap (ls : List S66) {i : Int} (h0 : 0 ≤ i) (h1 : i < (ls.length : Int)) : rd (ls.map (·.f2)) i = lC ls i := by
  unfold rd lC rd_T66
  have hl : i.toNat < ls.length := by omega
  simp only [List.getD_eq_getElem?_getD, List.getElem?_map, List.getElem?_eq_getElem hl]
  rfl

theorem caps_loop (V : Int) (ls : List S66) (hx : ls.length ≤ 17592186044416) (d : Nat) : ∀ (i : Nat), i ≤ ls.length → ls.length - i = d →
    Ev (fun k => graph_Caps.l0 k ((ls.take i).map (·.f2)) ls (ls.length : Int) (i : Int)) (ls.map (·.f2)) := by
  induction d with
  | zero =>
    intro i hi hd
    obtain rfl : i = ls.length := by omega
    refine Ev.step (fun k => by rw [graph_Caps.l0]) ?_
    refine Ev.ite_neg (by omega) ?_
    rw [List.take_length]
    exact Ev.now _
  | succ d ih =>
    intro i hi hd
    refine Ev.step (fun k => by rw [graph_Caps.l0]) ?_
    refine Ev.ite_pos (by omega) ?_
    refine Ev.ite_pos (by omega) ?_
    refine Ev.ite_pos (by omega) ?_
    refine Ev.ite_pos (by simp; omega) ?_
    have e3 : wrap64 ((i : Int) + 1) = ((i + 1 : Nat) : Int) := wrap_succ (by omega)
    have e4 : (ls.take i).map (·.f2) ++ [(rd_T66 ls (i : Int)).f2] = (ls.take (i + 1)).map (·.f2) := by
      have hl : i < ls.length := by omega
      rw [List.take_succ_eq_append_getElem hl, List.map_append]
      simp only [rd_T66, Int.toNat_natCast, List.getD_eq_getElem?_getD, List.getElem?_eq_getElem hl]
      rfl
    exact Ev.congr (fun k => by rw [e3, e4]) (ih (i + 1) (by omega) (by omega))

theorem graph_Caps_ev (V : Int) (ls : List S66) (hx : ls.length ≤ 17592186044416) : Ev (fun k => graph_Caps.f k V ls) (ls.map (·.f2)) :=
  caps_loop V ls hx ls.length 0 (by omega) (by omega)

theorem graph_Has_eq (V : Int) (ls : List S66) (v : Int) : graph_Has.f V ls v = some (decide (0 ≤ v ∧ v < V)) := by
  unfold graph_Has.f
  by_cases h : v ≥ 0
  · rw [if_pos h]; congr 1; simp; omega
  · rw [if_neg h]; congr 1; simp; omega

theorem ref_Vertex_eq (V : Int) (ls : List S66) (v : Int) : tollbarref4_Vertex.f V ls v = some (decide (0 ≤ v ∧ v < V)) := by
  unfold tollbarref4_Vertex.f
  by_cases h : v ≥ 0
  · rw [if_pos h]; congr 1; simp; omega
  · rw [if_neg h]; congr 1; simp; omega

theorem caps_sum (ls : List S66) : SumOk (ls.map (·.f2)) ↔ (∀ i : Int, 0 ≤ i → i < (ls.length : Int) → 0 ≤ lC ls i) ∧ S ls.length (lC ls) ≤ 4611686018427387904 := by
  have e : S (ls.map (·.f2)).length (rd (ls.map (·.f2))) = S ls.length (lC ls) := by
    rw [List.length_map]
    exact S_congr (fun i a b => rd_map_cap ls a b)
  unfold SumOk
  rw [e, List.length_map]
  constructor
  · rintro ⟨h1, h2⟩
    exact ⟨fun i a b => by rw [← rd_map_cap ls a b]; exact h1 i a b, h2⟩
  · rintro ⟨h1, h2⟩
    exact ⟨fun i a b => by rw [rd_map_cap ls a b]; exact h1 i a b, h2⟩

/-- link i is fine -/
def LinkOk (V : Int) (ls : List S66) (i : Int) : Prop := (0 ≤ lA ls i ∧ lA ls i < V) ∧ (0 ≤ lB ls i ∧ lB ls i < V) ∧ lA ls i ≠ lB ls i

theorem gok_iff (V : Int) (ls : List S66) : GOk V ls ↔ 2 ≤ V ∧ V ≤ 8 ∧ ls.length ≤ 16 ∧ (∀ i : Int, 0 ≤ i → i < (ls.length : Int) → LinkOk V ls i) ∧ (∀ i : Int, 0 ≤ i → i < (ls.length : Int) → 0 ≤ lC ls i) ∧ S ls.length (lC ls) ≤ 4611686018427387904 := by
  constructor
  · intro h
    exact ⟨h.v2, h.v8, h.m16, fun i a b => h.end_ a b, h.cap, h.sum⟩
  · rintro ⟨h1, h2, h3, h4, h5, h6⟩
    refine ⟨h1, h2, h3, ⟨fun i a b => ?_⟩, h5, h6⟩
    rw [net_V (by omega)]
    exact h4 i a b

theorem may_loop (V : Int) (ls : List S66) (hv : 2 ≤ V ∧ V ≤ 8) (hm : ls.length ≤ 16) (d : Nat) : ∀ (i : Nat), i ≤ ls.length → ls.length - i = d → (∀ j : Int, 0 ≤ j → j < (i : Int) → LinkOk V ls j) →
    Ev (fun k => graph_May.l0 k ls (ls.length : Int) (i : Int) V ls) (decide (GOk V ls)) := by
  induction d with
  | zero =>
    intro i hi hd hp
    obtain rfl : i = ls.length := by omega
    refine Ev.step (fun k => by rw [graph_May.l0]) ?_
    refine Ev.ite_neg (by omega) ?_
    refine Ev.bind (graph_Caps_ev V ls (by omega)) ?_
    refine Ev.bind (rate_Sum_ev _ (by rw [List.length_map]; omega)) ?_
    have : (if SumOk (ls.map (·.f2)) then (S (ls.map (·.f2)).length (rd (ls.map (·.f2))), true) else ((0 : Int), false)).2 = decide (GOk V ls) := by
      by_cases hs : SumOk (ls.map (·.f2))
      · rw [if_pos hs, decide_eq_true]
        rw [gok_iff]
        have := (caps_sum ls).1 hs
        exact ⟨hv.1, hv.2, hm, hp, this.1, this.2⟩
      · rw [if_neg hs, decide_eq_false]
        rw [gok_iff]
        rintro ⟨_, _, _, _, h5, h6⟩
        exact hs ((caps_sum ls).2 ⟨h5, h6⟩)
    rw [this]
    exact Ev.now _
  | succ d ih =>
    intro i hi hd hp
    have no : ¬ LinkOk V ls i → ¬ GOk V ls := fun h g => h (((gok_iff V ls).1 g).2.2.2.1 i (by omega) (by omega))
    refine Ev.step (fun k => by rw [graph_May.l0]) ?_
    refine Ev.ite_pos (by omega) ?_
    refine Ev.ite_pos (by omega) ?_
    refine Ev.ite_pos (by omega) ?_
    refine Ev.call (graph_Has_eq _ _ _) ?_
    by_cases ha : 0 ≤ lA ls i ∧ lA ls i < V
    · refine Ev.ite_pos (decide_eq_true ha) ?_
      refine Ev.call (graph_Has_eq _ _ _) ?_
      by_cases hb : 0 ≤ lB ls i ∧ lB ls i < V
      · refine Ev.ite_pos (decide_eq_true hb) ?_
        by_cases he : lA ls i = lB ls i
        · refine Ev.ite_pos he ?_
          rw [decide_eq_false (no (fun h => h.2.2 he))]
          exact Ev.now _
        · refine Ev.ite_neg he ?_
          have e3 : wrap64 ((i : Int) + 1) = ((i + 1 : Nat) : Int) := wrap_succ (by omega)
          refine Ev.congr (fun k => by rw [e3]) (ih (i + 1) (by omega) (by omega) ?_)
          intro j a b
          by_cases e : j = i
          · subst e; exact ⟨ha, hb, he⟩
          · exact hp j a (by omega)
      · refine Ev.ite_neg (by simp only [decide_eq_true_eq]; exact hb) ?_
        rw [decide_eq_false (no (fun h => hb h.2.1))]
        exact Ev.now _
    · refine Ev.ite_neg (by simp only [decide_eq_true_eq]; exact ha) ?_
      rw [decide_eq_false (no (fun h => ha h.1))]
      exact Ev.now _

theorem graph_May_ev (V : Int) (ls : List S66) : Ev (fun k => graph_May.f k V ls) (decide (GOk V ls)) := by
  have no : ¬ (2 ≤ V ∧ V ≤ 8 ∧ ls.length ≤ 16) → Ev (fun k => graph_May.j0 k true V ls) (decide (GOk V ls)) := by
    intro h
    rw [decide_eq_false (fun g => h ⟨g.v2, g.v8, g.m16⟩)]
    refine Ev.step (fun k => by rw [graph_May.j0]) ?_
    exact Ev.ite_pos rfl (Ev.now _)
  unfold graph_May.f
  by_cases h1 : V < 2
  · exact Ev.ite_pos h1 (no (by omega))
  · refine Ev.ite_neg h1 ?_
    by_cases h2 : V > 8
    · exact Ev.ite_pos h2 (no (by omega))
    · refine Ev.ite_neg h2 ?_
      by_cases h3 : (ls.length : Int) > 16
      · rw [decide_eq_true h3]; exact no (by omega)
      · rw [decide_eq_false h3]
        refine Ev.step (fun k => by rw [graph_May.j0]) ?_
        refine Ev.ite_neg (by simp) ?_
        exact may_loop V ls (by omega) (by omega) ls.length 0 (by omega) (by omega) (fun j a b => by omega)

theorem refmay_loop (V : Int) (ls : List S66) (hv : 2 ≤ V ∧ V ≤ 8) (hm : ls.length ≤ 16) (d : Nat) : ∀ (i : Nat), i ≤ ls.length → ls.length - i = d → (∀ j : Int, 0 ≤ j → j < (i : Int) → LinkOk V ls j ∧ 0 ≤ lC ls j) → S i (lC ls) ≤ 4611686018427387904 →
    Ev (fun k => tollbarref4_GraphMay.l0 k (S i (lC ls)) (i : Int) V ls) (decide (GOk V ls)) := by
  induction d with
  | zero =>
    intro i hi hd hp hs
    obtain rfl : i = ls.length := by omega
    refine Ev.step (fun k => by rw [tollbarref4_GraphMay.l0]) ?_
    refine Ev.ite_neg (by omega) ?_
    rw [decide_eq_true ((gok_iff V ls).2 ⟨hv.1, hv.2, hm, fun j a b => (hp j a b).1, fun j a b => (hp j a b).2, hs⟩)]
    exact Ev.now _
  | succ d ih =>
    intro i hi hd hp hs
    have h0 : 0 ≤ S i (lC ls) := S_nonneg (fun j a b => (hp j a b).2)
    have no : ¬ LinkOk V ls i → ¬ GOk V ls := fun h g => h (((gok_iff V ls).1 g).2.2.2.1 i (by omega) (by omega))
    refine Ev.step (fun k => by rw [tollbarref4_GraphMay.l0]) ?_
    refine Ev.ite_pos (by omega) ?_
    refine Ev.ite_pos (by omega) ?_
    refine Ev.call (ref_Vertex_eq _ _ _) ?_
    by_cases ha : 0 ≤ lA ls i ∧ lA ls i < V
    · refine Ev.ite_pos (decide_eq_true ha) ?_
      refine Ev.call (ref_Vertex_eq _ _ _) ?_
      by_cases hb : 0 ≤ lB ls i ∧ lB ls i < V
      · refine Ev.ite_pos (decide_eq_true hb) ?_
        by_cases he : lA ls i = lB ls i
        · refine Ev.ite_pos he ?_
          rw [decide_eq_false (no (fun h => h.2.2 he))]
          exact Ev.now _
        · refine Ev.ite_neg he ?_
          by_cases hc : lC ls i < 0
          · refine Ev.ite_pos hc ?_
            rw [decide_eq_false (fun g => by have := g.cap i (by omega) (by omega); omega)]
            exact Ev.now _
          · refine Ev.ite_neg hc ?_
            by_cases hm2 : lC ls i > 4611686018427387904 - S i (lC ls)
            · refine Ev.ite_pos (by rw [wrap_id (by omega) (by omega)]; exact hm2) ?_
              rw [decide_eq_false (fun g => by
                have := S_prefix (n := i + 1) g.cap (by omega)
                simp only [S] at this
                have := g.sum
                omega)]
              exact Ev.now _
            · refine Ev.ite_neg (by rw [wrap_id (by omega) (by omega)]; exact hm2) ?_
              have X := ih (i + 1) (by omega) (by omega) (fun j a b => by
                by_cases e : j = i
                · subst e; exact ⟨⟨ha, hb, he⟩, by omega⟩
                · exact hp j a (by omega)) (by simp only [S]; omega)
              have e2 : wrap64 (S i (lC ls) + lC ls i) = S (i + 1) (lC ls) := by rw [wrap_id (by omega) (by omega)]; rfl
              have e3 : wrap64 ((i : Int) + 1) = ((i + 1 : Nat) : Int) := wrap_succ (by omega)
              exact Ev.congr (fun k => by rw [← e2, ← e3]; rfl) X
      · refine Ev.ite_neg (by simp only [decide_eq_true_eq]; exact hb) ?_
        rw [decide_eq_false (no (fun h => hb h.2.1))]
        exact Ev.now _
    · refine Ev.ite_neg (by simp only [decide_eq_true_eq]; exact ha) ?_
      rw [decide_eq_false (no (fun h => ha h.1))]
      exact Ev.now _

theorem ref_GraphMay_ev (V : Int) (ls : List S66) : Ev (fun k => tollbarref4_GraphMay.f k V ls) (decide (GOk V ls)) := by
  have no : ¬ (2 ≤ V ∧ V ≤ 8 ∧ ls.length ≤ 16) → Ev (fun k => tollbarref4_GraphMay.j0 k true V ls) (decide (GOk V ls)) := by
    intro h
    rw [decide_eq_false (fun g => h ⟨g.v2, g.v8, g.m16⟩)]
    refine Ev.step (fun k => by rw [tollbarref4_GraphMay.j0]) ?_
    exact Ev.ite_pos rfl (Ev.now _)
  unfold tollbarref4_GraphMay.f
  by_cases h1 : V < 2
  · exact Ev.ite_pos h1 (no (by omega))
  · refine Ev.ite_neg h1 ?_
    by_cases h2 : V > 8
    · exact Ev.ite_pos h2 (no (by omega))
    · refine Ev.ite_neg h2 ?_
      by_cases h3 : (ls.length : Int) > 16
      · rw [decide_eq_true h3]; exact no (by omega)
      · rw [decide_eq_false h3]
        refine Ev.step (fun k => by rw [tollbarref4_GraphMay.j0]) ?_
        refine Ev.ite_neg (by simp) ?_
        exact refmay_loop V ls (by omega) (by omega) ls.length 0 (by omega) (by omega) (fun j a b => by omega) (by simp [S])

theorem same_loop (xs ys : List Int) (hl : xs.length = ys.length) (hx : xs.length ≤ 17592186044416) (d : Nat) : ∀ (i : Nat), i ≤ xs.length → xs.length - i = d → (∀ j : Int, 0 ≤ j → j < (i : Int) → rd xs j = rd ys j) →
    Ev (fun k => tollbarref19_SameInts.l0 k xs ys (i : Int)) (decide (xs = ys)) := by
  induction d with
  | zero =>
    intro i hi hd hp
    obtain rfl : i = xs.length := by omega
    refine Ev.step (fun k => by rw [tollbarref19_SameInts.l0]) ?_
    refine Ev.ite_neg (by omega) ?_
    rw [decide_eq_true (rd_ext hl hp)]
    exact Ev.now _
  | succ d ih =>
    intro i hi hd hp
    refine Ev.step (fun k => by rw [tollbarref19_SameInts.l0]) ?_
    refine Ev.ite_pos (by omega) ?_
    refine Ev.ite_pos (by omega) ?_
    refine Ev.ite_pos (by omega) ?_
    by_cases h : rd xs i = rd ys i
    · refine Ev.ite_pos h ?_
      have X := ih (i + 1) (by omega) (by omega) (fun j a b => by
        by_cases e : j = i
        · subst e; exact h
        · exact hp j a (by omega))
      have e3 : wrap64 ((i : Int) + 1) = ((i + 1 : Nat) : Int) := wrap_succ (by omega)
      exact Ev.congr (fun k => by rw [e3]) X
    · refine Ev.ite_neg h ?_
      rw [decide_eq_false (fun e => h (by rw [e]))]
      exact Ev.now _

theorem ref_SameInts_ev (xs ys : List Int) (hx : xs.length ≤ 17592186044416) : Ev (fun k => tollbarref19_SameInts.f k xs ys) (decide (xs = ys)) := by
  unfold tollbarref19_SameInts.f
  by_cases hl : xs.length = ys.length
  · refine Ev.ite_pos (by omega) ?_
    exact same_loop xs ys hl hx xs.length 0 (by omega) (by omega) (fun j a b => by omega)
  · refine Ev.ite_neg (by omega) ?_
    rw [decide_eq_false (fun e => hl (by rw [e]))]
    exact Ev.now _

theorem SameInts_ev (xs ys : List Int) (hx : xs.length ≤ 17592186044416) : Ev (fun k => tollbarlaw0_SameInts.f k xs ys) (decide (xs = ys)) := by
  unfold tollbarlaw0_SameInts.f
  exact Ev.bind (ref_SameInts_ev xs ys hx) (Ev.now _)

theorem SameInts_self (xs : List Int) (hx : xs.length ≤ 17592186044416) : Ev (fun k => tollbarlaw0_SameInts.f k xs xs) true := by
  have := SameInts_ev xs xs hx
  rwa [decide_eq_true rfl] at this

theorem spoil_loop (n : Nat) (hx : n ≤ 17592186044416) (d : Nat) : ∀ (i : Nat) (xs : List Int), xs.length = n → i ≤ n → n - i = d →
    ∃ r, Ev (fun k => tollbarlaw0_SpoilInts.l0 k xs (i : Int)) r := by
  induction d with
  | zero =>
    intro i xs hl hi hd
    refine ⟨xs, Ev.step (fun k => by rw [tollbarlaw0_SpoilInts.l0]) ?_⟩
    refine Ev.ite_neg (by omega) ?_
    exact Ev.now _
  | succ d ih =>
    intro i xs hl hi hd
    obtain ⟨r, X⟩ := ih (i + 1) (xs.set ((i : Int) : Int).toNat (wrap64 ((-9) - (Int.tmod (rd xs (i : Int)) 1000)))) (by rw [List.length_set]; exact hl) (by omega) (by omega)
    refine ⟨r, Ev.step (fun k => by rw [tollbarlaw0_SpoilInts.l0]) ?_⟩
    refine Ev.ite_pos (by omega) ?_
    refine Ev.ite_pos (by omega) ?_
    have e3 : wrap64 ((i : Int) + 1) = ((i + 1 : Nat) : Int) := wrap_succ (by omega)
    exact Ev.congr (fun k => by rw [e3]) X

theorem SpoilInts_ev (xs : List Int) (hx : xs.length ≤ 17592186044416) : ∃ r, Ev (fun k => tollbarlaw0_SpoilInts.f k xs) r := spoil_loop xs.length hx xs.length 0 xs rfl (by omega) (by omega)

theorem CopyGraph_eq (V : Int) (ls : List S66) (hx : ls.length < 5864062014805) : tollbarlaw0_CopyGraph.f V ls = some (V, ls) := by
  unfold tollbarlaw0_CopyGraph.f
  simp only [Option.bind_some]
  rw [if_pos (by simpa using hx)]
  rfl

theorem samegraph_loop (V : Int) (ls : List S66) (hx : ls.length ≤ 17592186044416) (d : Nat) : ∀ (i : Nat), i ≤ ls.length → ls.length - i = d →
    Ev (fun k => tollbarlaw0_SameGraph.l0 k (i : Int) V ls V ls) true := by
  induction d with
  | zero =>
    intro i hi hd
    refine Ev.step (fun k => by rw [tollbarlaw0_SameGraph.l0]) ?_
    refine Ev.ite_neg (by omega) ?_
    exact Ev.now _
  | succ d ih =>
    intro i hi hd
    have X := ih (i + 1) (by omega) (by omega)
    refine Ev.step (fun k => by rw [tollbarlaw0_SameGraph.l0]) ?_
    refine Ev.ite_pos (by omega) ?_
    refine Ev.ite_pos (by omega) ?_
    refine Ev.ite_pos (by omega) ?_
    refine Ev.ite_neg (by simp) ?_
    have e3 : wrap64 ((i : Int) + 1) = ((i + 1 : Nat) : Int) := wrap_succ (by omega)
    exact Ev.congr (fun k => by rw [e3]) X

theorem SameGraph_self (V : Int) (ls : List S66) (hx : ls.length ≤ 17592186044416) : Ev (fun k => tollbarlaw0_SameGraph.f k V ls V ls) true := by
  unfold tollbarlaw0_SameGraph.f
  refine Ev.ite_pos rfl ?_
  have e : ((ls.length : Int) != (ls.length : Int)) = false := by simp
  rw [e]
  refine Ev.step (fun k => by rw [tollbarlaw0_SameGraph.j0]) ?_
  refine Ev.ite_neg (by simp) ?_
  exact samegraph_loop V ls hx ls.length 0 (by omega) (by omega)

theorem awake4 : Ev (fun k => tollbarlaw4_awake.f k) true := Ev.of tollbarlaw4_awake.mono (k := 100) (by decide +kernel)

theorem Num_eq4 (x : Int) : tollbarlaw0_Num.f x = some x := rfl

/-- the links one of whose ends is a vertex -/
noncomputable def endTo (g : Int → Int) (v : Int) (n : Nat) : List Int := (ints n).filter (fun i => decide (g i = v))

theorem endTo_succ (g : Int → Int) (v : Int) (n : Nat) : endTo g v (n + 1) = if g (n : Int) = v then endTo g v n ++ [(n : Int)] else endTo g v n := by
  unfold endTo
  rw [ints_succ, List.filter_append]
  by_cases h : g (n : Int) = v
  · rw [if_pos h]; simp [h]
  · rw [if_neg h]; simp [h]

theorem endTo_len (g : Int → Int) (v : Int) (n : Nat) : (endTo g v n).length ≤ n := by
  unfold endTo
  refine Nat.le_trans (List.length_filter_le _ _) ?_
  rw [ints_len]; exact Nat.le_refl _

noncomputable def endR (V : Int) (ls : List S66) (g : Int → Int) (v : Int) : List Int × Int := if GOk V ls ∧ 0 ≤ v ∧ v < V then (endTo g v ls.length, 0) else ([], 400)

theorem endsO_loop (ls : List S66) (hm : ls.length ≤ 16) (v : Int) (d : Nat) : ∀ (i : Nat), i ≤ ls.length → ls.length - i = d →
    Ev (fun k => graph_endsO.l0 k v (endTo (lA ls) v i) ls (ls.length : Int) (i : Int)) (endTo (lA ls) v ls.length, 0) := by
  induction d with
  | zero =>
    intro i hi hd
    obtain rfl : i = ls.length := by omega
    refine Ev.step (fun k => by rw [graph_endsO.l0]) ?_
    exact Ev.ite_neg (by omega) (Ev.now _)
  | succ d ih =>
    intro i hi hd
    have X := ih (i + 1) (by omega) (by omega)
    have hl := endTo_len (lA ls) v i
    rw [endTo_succ] at X
    refine Ev.step (fun k => by rw [graph_endsO.l0]) ?_
    refine Ev.ite_pos (by omega) (Ev.ite_pos (by omega) (Ev.ite_pos (by omega) ?_))
    by_cases c : lA ls (i : Int) = v
    · rw [if_pos c] at X
      refine Ev.ite_pos c (Ev.ite_pos (by omega) ?_)
      exact Ev.congr (fun k => by rw [wrap_succ (by omega)]) X
    · rw [if_neg c] at X
      refine Ev.ite_neg c ?_
      exact Ev.congr (fun k => by rw [wrap_succ (by omega)]) X

theorem endsI_loop (ls : List S66) (hm : ls.length ≤ 16) (v : Int) (d : Nat) : ∀ (i : Nat), i ≤ ls.length → ls.length - i = d →
    Ev (fun k => graph_endsI.l0 k v (endTo (lB ls) v i) ls (ls.length : Int) (i : Int)) (endTo (lB ls) v ls.length, 0) := by
  induction d with
  | zero =>
    intro i hi hd
    obtain rfl : i = ls.length := by omega
    refine Ev.step (fun k => by rw [graph_endsI.l0]) ?_
    exact Ev.ite_neg (by omega) (Ev.now _)
  | succ d ih =>
    intro i hi hd
    have X := ih (i + 1) (by omega) (by omega)
    have hl := endTo_len (lB ls) v i
    rw [endTo_succ] at X
    refine Ev.step (fun k => by rw [graph_endsI.l0]) ?_
    refine Ev.ite_pos (by omega) (Ev.ite_pos (by omega) (Ev.ite_pos (by omega) ?_))
    by_cases c : lB ls (i : Int) = v
    · rw [if_pos c] at X
      refine Ev.ite_pos c (Ev.ite_pos (by omega) ?_)
      exact Ev.congr (fun k => by rw [wrap_succ (by omega)]) X
    · rw [if_neg c] at X
      refine Ev.ite_neg c ?_
      exact Ev.congr (fun k => by rw [wrap_succ (by omega)]) X

theorem refOut_loop (V : Int) (ls : List S66) (hm : ls.length ≤ 16) (v : Int) (d : Nat) : ∀ (i : Nat), i ≤ ls.length → ls.length - i = d →
    Ev (fun k => tollbarref4_Out.l0 k v (endTo (lA ls) v i) (i : Int) V ls) (endTo (lA ls) v ls.length, 0) := by
  induction d with
  | zero =>
    intro i hi hd
    obtain rfl : i = ls.length := by omega
    refine Ev.step (fun k => by rw [tollbarref4_Out.l0]) ?_
    exact Ev.ite_neg (by omega) (Ev.now _)
  | succ d ih =>
    intro i hi hd
    have X := ih (i + 1) (by omega) (by omega)
    have hl := endTo_len (lA ls) v i
    rw [endTo_succ] at X
    refine Ev.step (fun k => by rw [tollbarref4_Out.l0]) ?_
    refine Ev.ite_pos (by omega) (Ev.ite_pos (by omega) ?_)
    by_cases c : lA ls (i : Int) = v
    · rw [if_pos c] at X
      refine Ev.ite_pos c (Ev.ite_pos (by omega) ?_)
      exact Ev.congr (fun k => by rw [wrap_succ (by omega)]) X
    · rw [if_neg c] at X
      refine Ev.ite_neg c ?_
      exact Ev.congr (fun k => by rw [wrap_succ (by omega)]) X

theorem refIn_loop (V : Int) (ls : List S66) (hm : ls.length ≤ 16) (v : Int) (d : Nat) : ∀ (i : Nat), i ≤ ls.length → ls.length - i = d →
    Ev (fun k => tollbarref4_In.l0 k v (endTo (lB ls) v i) (i : Int) V ls) (endTo (lB ls) v ls.length, 0) := by
  induction d with
  | zero =>
    intro i hi hd
    obtain rfl : i = ls.length := by omega
    refine Ev.step (fun k => by rw [tollbarref4_In.l0]) ?_
    exact Ev.ite_neg (by omega) (Ev.now _)
  | succ d ih =>
    intro i hi hd
    have X := ih (i + 1) (by omega) (by omega)
    have hl := endTo_len (lB ls) v i
    rw [endTo_succ] at X
    refine Ev.step (fun k => by rw [tollbarref4_In.l0]) ?_
    refine Ev.ite_pos (by omega) (Ev.ite_pos (by omega) ?_)
    by_cases c : lB ls (i : Int) = v
    · rw [if_pos c] at X
      refine Ev.ite_pos c (Ev.ite_pos (by omega) ?_)
      exact Ev.congr (fun k => by rw [wrap_succ (by omega)]) X
    · rw [if_neg c] at X
      refine Ev.ite_neg c ?_
      exact Ev.congr (fun k => by rw [wrap_succ (by omega)]) X

theorem Out_ev (V : Int) (ls : List S66) (v : Int) : Ev (fun k => graph_Out.f k V ls v) (endR V ls (lA ls) v) := by
  have no : ¬ (GOk V ls ∧ 0 ≤ v ∧ v < V) → Ev (fun k => graph_endsO.j0 k v true V ls) (endR V ls (lA ls) v) := by
    intro h
    unfold endR
    rw [if_neg h]
    refine Ev.step (fun k => by rw [graph_endsO.j0]) ?_
    exact Ev.ite_pos rfl (Ev.now _)
  unfold graph_Out.f
  refine Ev.bind (a := endR V ls (lA ls) v) ?_ (Ev.now _)
  unfold graph_endsO.f
  refine Ev.bind (graph_May_ev V ls) ?_
  by_cases hg : GOk V ls
  · refine Ev.ite_pos (decide_eq_true hg) (Ev.call (graph_Has_eq _ _ _) ?_)
    by_cases hv : 0 ≤ v ∧ v < V
    · rw [decide_eq_true hv]
      refine Ev.step (fun k => by rw [graph_endsO.j0]) ?_
      refine Ev.ite_neg (by decide) ?_
      unfold endR
      rw [if_pos ⟨hg, hv⟩]
      exact endsO_loop ls hg.m16 v ls.length 0 (by omega) (by omega)
    · rw [decide_eq_false hv]
      exact no (fun g => hv g.2)
  · refine Ev.ite_neg (by simp only [decide_eq_true_eq]; exact hg) ?_
    exact no (fun g => hg g.1)

theorem In_ev (V : Int) (ls : List S66) (v : Int) : Ev (fun k => graph_In.f k V ls v) (endR V ls (lB ls) v) := by
  have no : ¬ (GOk V ls ∧ 0 ≤ v ∧ v < V) → Ev (fun k => graph_endsI.j0 k v true V ls) (endR V ls (lB ls) v) := by
    intro h
    unfold endR
    rw [if_neg h]
    refine Ev.step (fun k => by rw [graph_endsI.j0]) ?_
    exact Ev.ite_pos rfl (Ev.now _)
  unfold graph_In.f
  refine Ev.bind (a := endR V ls (lB ls) v) ?_ (Ev.now _)
  unfold graph_endsI.f
  refine Ev.bind (graph_May_ev V ls) ?_
  by_cases hg : GOk V ls
  · refine Ev.ite_pos (decide_eq_true hg) (Ev.call (graph_Has_eq _ _ _) ?_)
    by_cases hv : 0 ≤ v ∧ v < V
    · rw [decide_eq_true hv]
      refine Ev.step (fun k => by rw [graph_endsI.j0]) ?_
      refine Ev.ite_neg (by decide) ?_
      unfold endR
      rw [if_pos ⟨hg, hv⟩]
      exact endsI_loop ls hg.m16 v ls.length 0 (by omega) (by omega)
    · rw [decide_eq_false hv]
      exact no (fun g => hv g.2)
  · refine Ev.ite_neg (by simp only [decide_eq_true_eq]; exact hg) ?_
    exact no (fun g => hg g.1)

theorem ref_Out_ev (V : Int) (ls : List S66) (v : Int) : Ev (fun k => tollbarref4_Out.f k V ls v) (endR V ls (lA ls) v) := by
  have no : ¬ (GOk V ls ∧ 0 ≤ v ∧ v < V) → Ev (fun k => tollbarref4_Out.j0 k v true V ls) (endR V ls (lA ls) v) := by
    intro h
    unfold endR
    rw [if_neg h]
    refine Ev.step (fun k => by rw [tollbarref4_Out.j0]) ?_
    exact Ev.ite_pos rfl (Ev.now _)
  unfold tollbarref4_Out.f
  refine Ev.bind (ref_GraphMay_ev V ls) ?_
  by_cases hg : GOk V ls
  · refine Ev.ite_pos (decide_eq_true hg) (Ev.call (ref_Vertex_eq _ _ _) ?_)
    by_cases hv : 0 ≤ v ∧ v < V
    · rw [decide_eq_true hv]
      refine Ev.step (fun k => by rw [tollbarref4_Out.j0]) ?_
      refine Ev.ite_neg (by decide) ?_
      unfold endR
      rw [if_pos ⟨hg, hv⟩]
      exact refOut_loop V ls hg.m16 v ls.length 0 (by omega) (by omega)
    · rw [decide_eq_false hv]
      exact no (fun g => hv g.2)
  · refine Ev.ite_neg (by simp only [decide_eq_true_eq]; exact hg) ?_
    exact no (fun g => hg g.1)

theorem ref_In_ev (V : Int) (ls : List S66) (v : Int) : Ev (fun k => tollbarref4_In.f k V ls v) (endR V ls (lB ls) v) := by
  have no : ¬ (GOk V ls ∧ 0 ≤ v ∧ v < V) → Ev (fun k => tollbarref4_In.j0 k v true V ls) (endR V ls (lB ls) v) := by
    intro h
    unfold endR
    rw [if_neg h]
    refine Ev.step (fun k => by rw [tollbarref4_In.j0]) ?_
    exact Ev.ite_pos rfl (Ev.now _)
  unfold tollbarref4_In.f
  refine Ev.bind (ref_GraphMay_ev V ls) ?_
  by_cases hg : GOk V ls
  · refine Ev.ite_pos (decide_eq_true hg) (Ev.call (ref_Vertex_eq _ _ _) ?_)
    by_cases hv : 0 ≤ v ∧ v < V
    · rw [decide_eq_true hv]
      refine Ev.step (fun k => by rw [tollbarref4_In.j0]) ?_
      refine Ev.ite_neg (by decide) ?_
      unfold endR
      rw [if_pos ⟨hg, hv⟩]
      exact refIn_loop V ls hg.m16 v ls.length 0 (by omega) (by omega)
    · rw [decide_eq_false hv]
      exact no (fun g => hv g.2)
  · refine Ev.ite_neg (by simp only [decide_eq_true_eq]; exact hg) ?_
    exact no (fun g => hg g.1)

noncomputable def totR (V : Int) (ls : List S66) : Int × Int := if GOk V ls then (S ls.length (lC ls), 0) else (0, 400)

theorem Total_ev (V : Int) (ls : List S66) : Ev (fun k => graph_Total.f k V ls) (totR V ls) := by
  unfold graph_Total.f totR
  refine Ev.bind (graph_May_ev V ls) ?_
  by_cases hg : GOk V ls
  · have hm := hg.m16
    rw [if_pos hg]
    refine Ev.ite_pos (decide_eq_true hg) (Ev.bind (graph_Caps_ev V ls (by omega)) ?_)
    have X := rate_Sum_ev (ls.map (·.f2)) (by rw [List.length_map]; omega)
    have hs : SumOk (ls.map (·.f2)) := (caps_sum ls).2 ⟨hg.cap, hg.sum⟩
    rw [if_pos hs] at X
    have e : S (ls.map (·.f2)).length (rd (ls.map (·.f2))) = S ls.length (lC ls) := by
      rw [List.length_map]
      exact S_congr (fun i a b => rd_map_cap ls a b)
    rw [e] at X
    exact Ev.bind X (Ev.now _)
  · rw [if_neg hg]
    exact Ev.ite_neg (by simp only [decide_eq_true_eq]; exact hg) (Ev.now _)

theorem reftotal_loop (V : Int) (ls : List S66) (hg : GOk V ls) (d : Nat) : ∀ (i : Nat), i ≤ ls.length → ls.length - i = d →
    Ev (fun k => tollbarref4_Total.l0 k (S i (lC ls)) (i : Int) V ls) (S ls.length (lC ls), 0) := by
  have hm := hg.m16
  induction d with
  | zero =>
    intro i hi hd
    obtain rfl : i = ls.length := by omega
    refine Ev.step (fun k => by rw [tollbarref4_Total.l0]) ?_
    exact Ev.ite_neg (by omega) (Ev.now _)
  | succ d ih =>
    intro i hi hd
    have X := ih (i + 1) (by omega) (by omega)
    have h0 : 0 ≤ S (i + 1) (lC ls) := S_nonneg (fun j a b => hg.cap j a (by omega))
    have h1 := S_prefix (n := i + 1) (m := ls.length) (fun j a b => hg.cap j a b) (by omega)
    have h2 := hg.sum
    have e : S i (lC ls) + (rd_T66 ls (i : Int)).f2 = S (i + 1) (lC ls) := rfl
    refine Ev.step (fun k => by rw [tollbarref4_Total.l0]) ?_
    refine Ev.ite_pos (by omega) (Ev.ite_pos (by omega) ?_)
    rw [e]
    exact Ev.congr (fun k => by rw [wrap_succ (by omega), wrap_id (x := S (i + 1) (lC ls)) (by omega) (by omega)]) X

theorem ref_Total_ev (V : Int) (ls : List S66) : Ev (fun k => tollbarref4_Total.f k V ls) (totR V ls) := by
  unfold tollbarref4_Total.f totR
  refine Ev.bind (ref_GraphMay_ev V ls) ?_
  by_cases hg : GOk V ls
  · rw [if_pos hg]
    refine Ev.ite_pos (decide_eq_true hg) ?_
    exact reftotal_loop V ls hg ls.length 0 (by omega) (by omega)
  · rw [if_neg hg]
    exact Ev.ite_neg (by simp only [decide_eq_true_eq]; exact hg) (Ev.now _)

theorem endR_len (V : Int) (ls : List S66) (g : Int → Int) (v : Int) : (endR V ls g v).1.length ≤ ls.length := by
  unfold endR
  split
  · exact endTo_len _ _ _
  · exact Nat.zero_le _

theorem Graphs (V : Int) (ls : List S66) (v : Int) (hl : ls.length < 5864062014805) : Ev (fun k => tollbarlaw4_Graphs.f k V ls v) true := by
  unfold tollbarlaw4_Graphs.f
  have l1 := endR_len V ls (lA ls) v
  have l2 := endR_len V ls (lB ls) v
  refine Ev.call (CopyGraph_eq V ls hl) ?_
  refine Ev.bind (Out_ev V ls v) (Ev.bind (ref_Out_ev V ls v) (Ev.bind (In_ev V ls v) (Ev.bind (ref_In_ev V ls v) (Ev.bind (Total_ev V ls) (Ev.bind (ref_Total_ev V ls) (Ev.bind (graph_May_ev V ls) (Ev.bind (ref_GraphMay_ev V ls) ?_)))))))
  refine Ev.ite_neg (by simp) ?_
  refine Ev.bind (SameInts_self _ (by omega)) (Ev.ite_pos rfl (Ev.call (Num_eq4 _) (Ev.ite_pos rfl ?_)))
  refine Ev.bind (SameInts_self _ (by omega)) (Ev.ite_pos rfl (Ev.call (Num_eq4 _) (Ev.ite_pos rfl (Ev.ite_pos rfl (Ev.call (Num_eq4 _) ?_)))))
  refine Ev.step (fun k => by rw [tollbarlaw4_Graphs.j0]) ?_
  refine Ev.ite_neg (by simp) ?_
  obtain ⟨p, P⟩ := SpoilInts_ev (endR V ls (lA ls) v).1 (by omega)
  obtain ⟨q, Q⟩ := SpoilInts_ev (endR V ls (lB ls) v).1 (by omega)
  refine Ev.bind P (Ev.bind Q (Ev.bind awake4 (Ev.ite_pos rfl ?_)))
  exact Ev.bind (SameGraph_self V ls (by omega)) (Ev.now _)

end Go.Proofs.Ytbbdbnikogmidaa.Q
end
