/- Texts of this claim, one behind the other: QReaches. -/
import Derived.Test.YtjjfpkfpmpeikaaA884ba4
import Derived.Test.YtjjfpkfpmpeikaaA748cf5
import Derived.Test.YtjjfpkfpmpeikaaAc9468a
import Derived.Test.YtjjfpkfpmpeikaaA6daeed
import Derived.Test.YtjjfpkfpmpeikaaAde3805
import Derived.Test.YtjjfpkfpmpeikaaAf2dd02
import Derived.Test.YtjjfpkfpmpeikaaAe64c78
section
/- What the law Reaches leans on, and the law itself on what its printed walk tells: plain. -/
namespace Go.Proofs.Ytjjfpkfpmpeikaa.Q
open Go.RowKit Go.Proofs.YtjjfpkfpmpeikaaW.PrintWords Go.Proofs.YtjjfpkfpmpeikaaW.PrintMore Go.Proofs.Ytjjfpkfpmpeikaa.PAll Go.Proofs.Ytjjfpkfpmpeikaa.Plain
set_option linter.unusedVariables false
set_option linter.unusedSimpArgs false
attribute [local instance] Classical.propDecidable
/-! ### caps, lists within -/

theorem S_prefix {f : Int → Int} {n m : Nat} (h : ∀ i : Int, 0 ≤ i → i < (m : Int) → 0 ≤ f i) (hn : n ≤ m) : S n f ≤ S m f := by
  induction m with
  | zero => obtain rfl : n = 0 := by omega
            exact Int.le_refl _
  | succ m ih =>
    by_cases e : n = m + 1
    · subst e; exact Int.le_refl _
    · have h1 := ih (fun i a b => h i a (by omega)) (by omega)
      have h2 := h (m : Int) (by omega) (by omega)
      simp only [S]
      omega

theorem rate_Is_eq (x : Int) : rate_Is.f x = some (decide (0 ≤ x ∧ x ≤ 4611686018427387904)) := by
  unfold rate_Is.f
  by_cases h : x ≥ 0
  · rw [if_pos h]; congr 1; simp; omega
  · rw [if_neg h]; congr 1; simp; omega

def SumOk (xs : List Int) : Prop := (∀ i : Int, 0 ≤ i → i < (xs.length : Int) → 0 ≤ rd xs i) ∧ S xs.length (rd xs) ≤ 4611686018427387904

theorem sum_loop (xs : List Int) (hx : xs.length ≤ 4611686018427387904) (d : Nat) : ∀ (i : Nat), i ≤ xs.length → xs.length - i = d → (∀ j : Int, 0 ≤ j → j < (i : Int) → 0 ≤ rd xs j) → S i (rd xs) ≤ 4611686018427387904 →
    Ev (fun k => rate_Sum.l0 k (S i (rd xs)) xs (xs.length : Int) (i : Int)) (if SumOk xs then (S xs.length (rd xs), true) else (0, false)) := by
  induction d with
  | zero =>
    intro i hi hd hp hs
    obtain rfl : i = xs.length := by omega
    refine Ev.step (fun k => by rw [rate_Sum.l0]) ?_
    refine Ev.ite_neg (by omega) ?_
    rw [if_pos ⟨hp, hs⟩]
    exact Ev.now _
  | succ d ih =>
    intro i hi hd hp hs
    have h0 : 0 ≤ S i (rd xs) := S_nonneg hp
    refine Ev.step (fun k => by rw [rate_Sum.l0]) ?_
    refine Ev.ite_pos (by omega) ?_
    refine Ev.ite_pos (by omega) ?_
    refine Ev.ite_pos (by omega) ?_
    refine Ev.call (rate_Is_eq _) ?_
    by_cases hr : 0 ≤ rd xs i ∧ rd xs i ≤ 4611686018427387904
    · refine Ev.ite_pos (decide_eq_true hr) ?_
      by_cases hm : rd xs i > 4611686018427387904 - S i (rd xs)
      · refine Ev.ite_pos (by rw [wrap_id (by omega) (by omega)]; exact hm) ?_
        rw [if_neg]
        · exact Ev.now _
        · intro ho
          have := S_prefix (n := i + 1) ho.1 (by omega)
          simp only [S] at this
          have := ho.2
          omega
      · refine Ev.ite_neg (by rw [wrap_id (by omega) (by omega)]; exact hm) ?_
        have e2 : wrap64 (S i (rd xs) + rd xs i) = S (i + 1) (rd xs) := by rw [wrap_id (by omega) (by omega)]; rfl
        have e3 : wrap64 ((i : Int) + 1) = ((i + 1 : Nat) : Int) := wrap_succ (by omega)
        refine Ev.congr (fun k => by rw [e2, e3]) (ih (i + 1) (by omega) (by omega) ?_ ?_)
        · intro j a b
          by_cases e : j = i
          · subst e; exact hr.1
          · exact hp j a (by omega)
        · simp only [S]; omega
    · refine Ev.ite_neg (by simp only [decide_eq_true_eq]; exact hr) ?_
      rw [if_neg]
      · exact Ev.now _
      · intro ho
        have h1 := ho.1 i (by omega) (by omega)
        have := S_one_le ho.1 (k := (i : Int)) (by omega) (by omega)
        have := ho.2
        exact hr ⟨h1, by omega⟩

theorem rate_Sum_ev (xs : List Int) (hx : xs.length ≤ 4611686018427387904) : Ev (fun k => rate_Sum.f k xs) (if SumOk xs then (S xs.length (rd xs), true) else (0, false)) :=
  sum_loop xs hx xs.length 0 (by omega) (by omega) (fun j a b => by omega) (by simp [S])

def lA (ls : List S42) (i : Int) : Int := (rd_T42 ls i).f0

def lB (ls : List S42) (i : Int) : Int := (rd_T42 ls i).f1

def lC (ls : List S42) (i : Int) : Int := (rd_T42 ls i).f2

def net (V : Int) (ls : List S42) : Net := { V := V.toNat, m := ls.length, a := lA ls, b := lB ls }

structure GOk (V : Int) (ls : List S42) : Prop where
  v2 : 2 ≤ V
  v8 : V ≤ 8
  m16 : ls.length ≤ 16
  ends : (net V ls).ok
  cap : ∀ i : Int, 0 ≤ i → i < (ls.length : Int) → 0 ≤ lC ls i
  sum : S ls.length (lC ls) ≤ 4611686018427387904

theorem net_V {V : Int} {ls : List S42} (h : 0 ≤ V) : ((net V ls).V : Int) = V := by simp only [net]; omega

theorem net_m {V : Int} {ls : List S42} : (net V ls).m = ls.length := rfl

theorem GOk.end_ {V : Int} {ls : List S42} (h : GOk V ls) {i : Int} (h0 : 0 ≤ i) (h1 : i < (ls.length : Int)) : (0 ≤ lA ls i ∧ lA ls i < V) ∧ (0 ≤ lB ls i ∧ lB ls i < V) ∧ lA ls i ≠ lB ls i := by
  have := h.ends.h i h0 h1
  have e := net_V (V := V) (ls := ls) (by have := h.v2; omega)
  rw [e] at this
  exact this

theorem GOk.cap_le {V : Int} {ls : List S42} (h : GOk V ls) {i : Int} (h0 : 0 ≤ i) (h1 : i < (ls.length : Int)) : lC ls i ≤ 4611686018427387904 := by
  have := S_one_le h.cap h0 h1
  have := h.sum
  omega

theorem rd_map_cap (ls : List S42) {i : Int} (h0 : 0 ≤ i) (h1 : i < (ls.length : Int)) : rd (ls.map (·.f2)) i = lC ls i := by
  unfold rd lC rd_T42
  have hl : i.toNat < ls.length := by omega
  simp only [List.getD_eq_getElem?_getD, List.getElem?_map, List.getElem?_eq_getElem hl]
  rfl

theorem caps_loop (V : Int) (ls : List S42) (hx : ls.length ≤ 17592186044416) (d : Nat) : ∀ (i : Nat), i ≤ ls.length → ls.length - i = d →
    Ev (fun k => graph_Caps.l0 k ((ls.take i).map (·.f2)) ls (ls.length : Int) (i : Int)) (ls.map (·.f2)) := by
  induction d with
  | zero =>
    intro i hi hd
    obtain rfl : i = ls.length := by omega
    refine Ev.step (fun k => by rw [graph_Caps.l0]) ?_
    refine Ev.ite_neg (by omega) ?_
    rw [List.take_length]
    exact Ev.now _
  | succ d ih =>
    intro i hi hd
    refine Ev.step (fun k => by rw [graph_Caps.l0]) ?_
    refine Ev.ite_pos (by omega) ?_
    refine Ev.ite_pos (by omega) ?_
    refine Ev.ite_pos (by omega) ?_
    refine Ev.ite_pos (by simp; omega) ?_
    have e3 : wrap64 ((i : Int) + 1) = ((i + 1 : Nat) : Int) := wrap_succ (by omega)
    have e4 : (ls.take i).map (·.f2) ++ [(rd_T42 ls (i : Int)).f2] = (ls.take (i + 1)).map (·.f2) := by
      have hl : i < ls.length := by omega
      rw [List.take_succ_eq_append_getElem hl, List.map_append]
      simp only [rd_T42, Int.toNat_natCast, List.getD_eq_getElem?_getD, List.getElem?_eq_getElem hl]
      rfl
    exact Ev.congr (fun k => by rw [e3, e4]) (ih (i + 1) (by omega) (by omega))

theorem graph_Caps_ev (V : Int) (ls : List S42) (hx : ls.length ≤ 17592186044416) : Ev (fun k => graph_Caps.f k V ls) (ls.map (·.f2)) :=
  caps_loop V ls hx ls.length 0 (by omega) (by omega)

theorem graph_Has_eq (V : Int) (ls : List S42) (v : Int) : graph_Has.f V ls v = some (decide (0 ≤ v ∧ v < V)) := by
  unfold graph_Has.f
  by_cases h : v ≥ 0
  · rw [if_pos h]; congr 1; simp; omega
  · rw [if_neg h]; congr 1; simp; omega

theorem ref_Vertex_eq (V : Int) (ls : List S42) (v : Int) : tollbarref4_Vertex.f V ls v = some (decide (0 ≤ v ∧ v < V)) := by
  unfold tollbarref4_Vertex.f
  by_cases h : v ≥ 0
  · rw [if_pos h]; congr 1; simp; omega
  · rw [if_neg h]; congr 1; simp; omega

theorem caps_sum (ls : List S42) : SumOk (ls.map (·.f2)) ↔ (∀ i : Int, 0 ≤ i → i < (ls.length : Int) → 0 ≤ lC ls i) ∧ S ls.length (lC ls) ≤ 4611686018427387904 := by
  have e : S (ls.map (·.f2)).length (rd (ls.map (·.f2))) = S ls.length (lC ls) := by
    rw [List.length_map]
    exact S_congr (fun i a b => rd_map_cap ls a b)
  unfold SumOk
  rw [e, List.length_map]
  constructor
  · rintro ⟨h1, h2⟩
    exact ⟨fun i a b => by rw [← rd_map_cap ls a b]; exact h1 i a b, h2⟩
  · rintro ⟨h1, h2⟩
    exact ⟨fun i a b => by rw [rd_map_cap ls a b]; exact h1 i a b, h2⟩

/-- link i is fine -/
def LinkOk (V : Int) (ls : List S42) (i : Int) : Prop := (0 ≤ lA ls i ∧ lA ls i < V) ∧ (0 ≤ lB ls i ∧ lB ls i < V) ∧ lA ls i ≠ lB ls i

theorem gok_iff (V : Int) (ls : List S42) : GOk V ls ↔ 2 ≤ V ∧ V ≤ 8 ∧ ls.length ≤ 16 ∧ (∀ i : Int, 0 ≤ i → i < (ls.length : Int) → LinkOk V ls i) ∧ (∀ i : Int, 0 ≤ i → i < (ls.length : Int) → 0 ≤ lC ls i) ∧ S ls.length (lC ls) ≤ 4611686018427387904 := by
  constructor
  · intro h
    exact ⟨h.v2, h.v8, h.m16, fun i a b => h.end_ a b, h.cap, h.sum⟩
  · rintro ⟨h1, h2, h3, h4, h5, h6⟩
    refine ⟨h1, h2, h3, ⟨fun i a b => ?_⟩, h5, h6⟩
    rw [net_V (by omega)]
    exact h4 i a b

theorem may_loop (V : Int) (ls : List S42) (hv : 2 ≤ V ∧ V ≤ 8) (hm : ls.length ≤ 16) (d : Nat) : ∀ (i : Nat), i ≤ ls.length → ls.length - i = d → (∀ j : Int, 0 ≤ j → j < (i : Int) → LinkOk V ls j) →
    Ev (fun k => graph_May.l0 k ls (ls.length : Int) (i : Int) V ls) (decide (GOk V ls)) := by
  induction d with
  | zero =>
    intro i hi hd hp
    obtain rfl : i = ls.length := by omega
    refine Ev.step (fun k => by rw [graph_May.l0]) ?_
    refine Ev.ite_neg (by omega) ?_
    refine Ev.bind (graph_Caps_ev V ls (by omega)) ?_
    refine Ev.bind (rate_Sum_ev _ (by rw [List.length_map]; omega)) ?_
    have : (if SumOk (ls.map (·.f2)) then (S (ls.map (·.f2)).length (rd (ls.map (·.f2))), true) else ((0 : Int), false)).2 = decide (GOk V ls) := by
      by_cases hs : SumOk (ls.map (·.f2))
      · rw [if_pos hs, decide_eq_true]
        rw [gok_iff]
        have := (caps_sum ls).1 hs
        exact ⟨hv.1, hv.2, hm, hp, this.1, this.2⟩
      · rw [if_neg hs, decide_eq_false]
        rw [gok_iff]
        rintro ⟨_, _, _, _, h5, h6⟩
        exact hs ((caps_sum ls).2 ⟨h5, h6⟩)
    rw [this]
    exact Ev.now _
  | succ d ih =>
    intro i hi hd hp
    have no : ¬ LinkOk V ls i → ¬ GOk V ls := fun h g => h (((gok_iff V ls).1 g).2.2.2.1 i (by omega) (by omega))
    refine Ev.step (fun k => by rw [graph_May.l0]) ?_
    refine Ev.ite_pos (by omega) ?_
    refine Ev.ite_pos (by omega) ?_
    refine Ev.ite_pos (by omega) ?_
    refine Ev.call (graph_Has_eq _ _ _) ?_
    by_cases ha : 0 ≤ lA ls i ∧ lA ls i < V
    · refine Ev.ite_pos (decide_eq_true ha) ?_
      refine Ev.call (graph_Has_eq _ _ _) ?_
      by_cases hb : 0 ≤ lB ls i ∧ lB ls i < V
      · refine Ev.ite_pos (decide_eq_true hb) ?_
        by_cases he : lA ls i = lB ls i
        · refine Ev.ite_pos he ?_
          rw [decide_eq_false (no (fun h => h.2.2 he))]
          exact Ev.now _
        · refine Ev.ite_neg he ?_
          have e3 : wrap64 ((i : Int) + 1) = ((i + 1 : Nat) : Int) := wrap_succ (by omega)
          refine Ev.congr (fun k => by rw [e3]) (ih (i + 1) (by omega) (by omega) ?_)
          intro j a b
          by_cases e : j = i
          · subst e; exact ⟨ha, hb, he⟩
          · exact hp j a (by omega)
      · refine Ev.ite_neg (by simp only [decide_eq_true_eq]; exact hb) ?_
        rw [decide_eq_false (no (fun h => hb h.2.1))]
        exact Ev.now _
    · refine Ev.ite_neg (by simp only [decide_eq_true_eq]; exact ha) ?_
      rw [decide_eq_false (no (fun h => ha h.1))]
      exact Ev.now _

theorem graph_May_ev (V : Int) (ls : List S42) : Ev (fun k => graph_May.f k V ls) (decide (GOk V ls)) := by
  have no : ¬ (2 ≤ V ∧ V ≤ 8 ∧ ls.length ≤ 16) → Ev (fun k => graph_May.j0 k true V ls) (decide (GOk V ls)) := by
    intro h
    rw [decide_eq_false (fun g => h ⟨g.v2, g.v8, g.m16⟩)]
    refine Ev.step (fun k => by rw [graph_May.j0]) ?_
    exact Ev.ite_pos rfl (Ev.now _)
  unfold graph_May.f
  by_cases h1 : V < 2
  · exact Ev.ite_pos h1 (no (by omega))
  · refine Ev.ite_neg h1 ?_
    by_cases h2 : V > 8
    · exact Ev.ite_pos h2 (no (by omega))
    · refine Ev.ite_neg h2 ?_
      by_cases h3 : (ls.length : Int) > 16
      · rw [decide_eq_true h3]; exact no (by omega)
      · rw [decide_eq_false h3]
        refine Ev.step (fun k => by rw [graph_May.j0]) ?_
        refine Ev.ite_neg (by simp) ?_
        exact may_loop V ls (by omega) (by omega) ls.length 0 (by omega) (by omega) (fun j a b => by omega)

theorem refmay_loop (V : Int) (ls : List S42) (hv : 2 ≤ V ∧ V ≤ 8) (hm : ls.length ≤ 16) (d : Nat) : ∀ (i : Nat), i ≤ ls.length → ls.length - i = d → (∀ j : Int, 0 ≤ j → j < (i : Int) → LinkOk V ls j ∧ 0 ≤ lC ls j) → S i (lC ls) ≤ 4611686018427387904 →
    Ev (fun k => tollbarref4_GraphMay.l0 k (S i (lC ls)) (i : Int) V ls) (decide (GOk V ls)) := by
  induction d with
  | zero =>
    intro i hi hd hp hs
    obtain rfl : i = ls.length := by omega
    refine Ev.step (fun k => by rw [tollbarref4_GraphMay.l0]) ?_
    refine Ev.ite_neg (by omega) ?_
    rw [decide_eq_true ((gok_iff V ls).2 ⟨hv.1, hv.2, hm, fun j a b => (hp j a b).1, fun j a b => (hp j a b).2, hs⟩)]
    exact Ev.now _
  | succ d ih =>
    intro i hi hd hp hs
    have h0 : 0 ≤ S i (lC ls) := S_nonneg (fun j a b => (hp j a b).2)
    have no : ¬ LinkOk V ls i → ¬ GOk V ls := fun h g => h (((gok_iff V ls).1 g).2.2.2.1 i (by omega) (by omega))
    refine Ev.step (fun k => by rw [tollbarref4_GraphMay.l0]) ?_
    refine Ev.ite_pos (by omega) ?_
    refine Ev.ite_pos (by omega) ?_
    refine Ev.call (ref_Vertex_eq _ _ _) ?_
    by_cases ha : 0 ≤ lA ls i ∧ lA ls i < V
    · refine Ev.ite_pos (decide_eq_true ha) ?_
      refine Ev.call (ref_Vertex_eq _ _ _) ?_
      by_cases hb : 0 ≤ lB ls i ∧ lB ls i < V
      · refine Ev.ite_pos (decide_eq_true hb) ?_
        by_cases he : lA ls i = lB ls i
        · refine Ev.ite_pos he ?_
          rw [decide_eq_false (no (fun h => h.2.2 he))]
          exact Ev.now _
        · refine Ev.ite_neg he ?_
          by_cases hc : lC ls i < 0
          · refine Ev.ite_pos hc ?_
            rw [decide_eq_false (fun g => by have := g.cap i (by omega) (by omega); omega)]
            exact Ev.now _
          · refine Ev.ite_neg hc ?_
            by_cases hm2 : lC ls i > 4611686018427387904 - S i (lC ls)
            · refine Ev.ite_pos (by rw [wrap_id (by omega) (by omega)]; exact hm2) ?_
              rw [decide_eq_false (fun g => by
                have := S_prefix (n := i + 1) g.cap (by omega)
                simp only [S] at this
                have := g.sum
                omega)]
              exact Ev.now _
            · refine Ev.ite_neg (by rw [wrap_id (by omega) (by omega)]; exact hm2) ?_
              have X := ih (i + 1) (by omega) (by omega) (fun j a b => by
                by_cases e : j = i
                · subst e; exact ⟨⟨ha, hb, he⟩, by omega⟩
                · exact hp j a (by omega)) (by simp only [S]; omega)
              have e2 : wrap64 (S i (lC ls) + lC ls i) = S (i + 1) (lC ls) := by rw [wrap_id (by omega) (by omega)]; rfl
              have e3 : wrap64 ((i : Int) + 1) = ((i + 1 : Nat) : Int) := wrap_succ (by omega)
              exact Ev.congr (fun k => by rw [← e2, ← e3]; rfl) X
      · refine Ev.ite_neg (by simp only [decide_eq_true_eq]; exact hb) ?_
        rw [decide_eq_false (no (fun h => hb h.2.1))]
        exact Ev.now _
    · refine Ev.ite_neg (by simp only [decide_eq_true_eq]; exact ha) ?_
      rw [decide_eq_false (no (fun h => ha h.1))]
      exact Ev.now _

theorem ref_GraphMay_ev (V : Int) (ls : List S42) : Ev (fun k => tollbarref4_GraphMay.f k V ls) (decide (GOk V ls)) := by
  have no : ¬ (2 ≤ V ∧ V ≤ 8 ∧ ls.length ≤ 16) → Ev (fun k => tollbarref4_GraphMay.j0 k true V ls) (decide (GOk V ls)) := by
    intro h
    rw [decide_eq_false (fun g => h ⟨g.v2, g.v8, g.m16⟩)]
    refine Ev.step (fun k => by rw [tollbarref4_GraphMay.j0]) ?_
    exact Ev.ite_pos rfl (Ev.now _)
  unfold tollbarref4_GraphMay.f
  by_cases h1 : V < 2
  · exact Ev.ite_pos h1 (no (by omega))
  · refine Ev.ite_neg h1 ?_
    by_cases h2 : V > 8
    · exact Ev.ite_pos h2 (no (by omega))
    · refine Ev.ite_neg h2 ?_
      by_cases h3 : (ls.length : Int) > 16
      · rw [decide_eq_true h3]; exact no (by omega)
      · rw [decide_eq_false h3]
        refine Ev.step (fun k => by rw [tollbarref4_GraphMay.j0]) ?_
        refine Ev.ite_neg (by simp) ?_
        exact refmay_loop V ls (by omega) (by omega) ls.length 0 (by omega) (by omega) (fun j a b => by omega) (by simp [S])

theorem half {k : Int} (h0 : 0 ≤ k) (h1 : k < 9223372036854775807) : wrap64 (Int.tdiv k 2) = k / 2 := by
  rw [Int.tdiv_eq_ediv_of_nonneg h0, wrap_id (by omega) (by omega)]

theorem odd_ {k : Int} (h0 : 0 ≤ k) : Int.tmod k 2 = k % 2 := Int.tmod_eq_emod_of_nonneg h0

theorem arcs_Ends_eq (V : Int) (ls : List S42) (hm : ls.length ≤ 17592186044416) {k : Int} (h0 : 0 ≤ k) (h1 : k < 2 * (ls.length : Int)) :
    arcs_Ends.f V ls k = some (tail (net V ls) k, head (net V ls) k) := by
  unfold arcs_Ends.f
  rw [half h0 (by omega), odd_ h0, if_pos (by omega), if_pos (by omega)]
  unfold tail head
  by_cases h : k % 2 = 1
  · rw [if_pos h, if_pos h, if_pos h]; rfl
  · rw [if_neg h, if_neg h, if_neg h]; rfl

theorem ref_Tail_eq (V : Int) (ls : List S42) (hm : ls.length ≤ 17592186044416) {k : Int} (h0 : 0 ≤ k) (h1 : k < 2 * (ls.length : Int)) :
    tollbarref4_Tail.f V ls k = some (tail (net V ls) k) := by
  unfold tollbarref4_Tail.f
  rw [half h0 (by omega), odd_ h0]
  unfold tail
  by_cases h : k % 2 = 1
  · rw [if_neg (by omega), if_pos (by omega), if_pos (by omega), if_pos h]; rfl
  · rw [if_pos (by omega), if_pos (by omega), if_pos (by omega), if_neg h]; rfl

theorem ref_Head_eq (V : Int) (ls : List S42) (hm : ls.length ≤ 17592186044416) {k : Int} (h0 : 0 ≤ k) (h1 : k < 2 * (ls.length : Int)) :
    tollbarref4_Head.f V ls k = some (head (net V ls) k) := by
  unfold tollbarref4_Head.f
  rw [half h0 (by omega), odd_ h0]
  unfold head
  by_cases h : k % 2 = 1
  · rw [if_neg (by omega), if_pos (by omega), if_pos (by omega), if_pos h]; rfl
  · rw [if_pos (by omega), if_pos (by omega), if_pos (by omega), if_neg h]; rfl

/-- the arcs below n that begin at v -/
noncomputable def rowTo (N : Net) (v : Int) (n : Nat) : List Int := (ints n).filter (fun k => decide (tail N k = v))

noncomputable def rowOf (N : Net) (v : Int) : List Int := rowTo N v (2 * N.m)

theorem rowTo_succ (N : Net) (v : Int) (n : Nat) : rowTo N v (n + 1) = if tail N (n : Int) = v then rowTo N v n ++ [(n : Int)] else rowTo N v n := by
  unfold rowTo
  rw [ints_succ, List.filter_append]
  by_cases h : tail N (n : Int) = v
  · rw [if_pos h]; simp [h]
  · rw [if_neg h]; simp [h]

theorem rowTo_len (N : Net) (v : Int) (n : Nat) : (rowTo N v n).length ≤ n := by
  unfold rowTo
  have := List.length_filter_le (fun k => decide (tail N k = v)) (ints n)
  rw [ints_len] at this
  exact this

theorem rowOf_mem {N : Net} {v k : Int} : k ∈ rowOf N v ↔ N.arc k ∧ tail N k = v := by
  unfold rowOf rowTo Net.arc
  rw [List.mem_filter, ints_mem, decide_eq_true_eq]
  constructor
  · rintro ⟨⟨a, b⟩, c⟩; exact ⟨⟨a, by omega⟩, c⟩
  · rintro ⟨⟨a, b⟩, c⟩; exact ⟨⟨a, by omega⟩, c⟩

theorem row_loop (V : Int) (ls : List S42) (hm : ls.length ≤ 4096) (v : Int) (d : Nat) : ∀ (i : Nat), i ≤ 2 * ls.length → 2 * ls.length - i = d →
    Ev (fun k => arcs_row.l0 k v (rowTo (net V ls) v i) (2 * (ls.length : Int)) (i : Int) V ls) (rowOf (net V ls) v) := by
  induction d with
  | zero =>
    intro i hi hd
    obtain rfl : i = 2 * ls.length := by omega
    refine Ev.step (fun k => by rw [arcs_row.l0]) ?_
    refine Ev.ite_neg (by omega) ?_
    exact Ev.now _
  | succ d ih =>
    intro i hi hd
    have X := ih (i + 1) (by omega) (by omega)
    have hl := rowTo_len (net V ls) v i
    refine Ev.step (fun k => by rw [arcs_row.l0]) ?_
    refine Ev.ite_pos (by omega) ?_
    refine Ev.call (arcs_Ends_eq V ls (by omega) (by omega) (by omega)) ?_
    rw [rowTo_succ] at X
    have e3 : wrap64 ((i : Int) + 1) = ((i + 1 : Nat) : Int) := wrap_succ (by omega)
    by_cases h : tail (net V ls) (i : Int) = v
    · refine Ev.ite_pos h ?_
      refine Ev.ite_pos (by omega) ?_
      rw [if_pos h] at X
      exact Ev.congr (fun k => by rw [e3]) X
    · refine Ev.ite_neg h ?_
      rw [if_neg h] at X
      exact Ev.congr (fun k => by rw [e3]) X

theorem twice_ {ls : List S42} (hm : ls.length ≤ 4096) : wrap64 (2 * (ls.length : Int)) = 2 * (ls.length : Int) := wrap_id (by omega) (by omega)

theorem arcs_row_ev (V : Int) (ls : List S42) (hm : ls.length ≤ 4096) (v : Int) : Ev (fun k => arcs_row.f k V ls v) (rowOf (net V ls) v) := by
  unfold arcs_row.f
  rw [twice_ hm]
  exact row_loop V ls hm v (2 * ls.length) 0 (by omega) (by omega)

/-- the rows of the vertices below v, one behind the other -/
noncomputable def rowsTo (N : Net) : Nat → List Int
  | 0 => []
  | v + 1 => rowsTo N v ++ rowOf N (v : Int)

noncomputable def startAt (N : Net) (v : Int) : Int := ((rowsTo N v.toNat).length : Int)

noncomputable def starts (N : Net) : List Int := tab (N.V + 1) (startAt N)

noncomputable def order (N : Net) : List Int := rowsTo N N.V

noncomputable def heads (N : Net) : List Int := tab (2 * N.m) (head N)

theorem rowsTo_len (N : Net) (v : Nat) : (rowsTo N v).length ≤ v * (2 * N.m) := by
  induction v with
  | zero => simp [rowsTo]
  | succ v ih =>
    simp only [rowsTo, List.length_append]
    have := rowTo_len N v (2 * N.m)
    unfold rowOf
    have e : (v + 1) * (2 * N.m) = v * (2 * N.m) + 2 * N.m := Nat.succ_mul v (2 * N.m)
    omega

theorem build_heads (V : Int) (ls : List S42) (hm : ls.length ≤ 16) {r : List Int × List Int × List Int × Int} (hr : Ev (fun k => arcs_Build.l1 k V 0 V ls [] [] (heads (net V ls))) r) (d : Nat) : ∀ (i : Nat), i ≤ 2 * ls.length → 2 * ls.length - i = d →
    Ev (fun k => arcs_Build.l0 k (2 * (ls.length : Int)) (i : Int) V ls (tab i (head (net V ls)))) r := by
  induction d with
  | zero =>
    intro i hi hd
    obtain rfl : i = 2 * ls.length := by omega
    refine Ev.step (fun k => by rw [arcs_Build.l0]) ?_
    refine Ev.ite_neg (by omega) ?_
    exact hr
  | succ d ih =>
    intro i hi hd
    have X := ih (i + 1) (by omega) (by omega)
    refine Ev.step (fun k => by rw [arcs_Build.l0]) ?_
    refine Ev.ite_pos (by omega) ?_
    refine Ev.call (arcs_Ends_eq V ls (by omega) (by omega) (by omega)) ?_
    refine Ev.ite_pos (by rw [tab_len]; omega) ?_
    rw [tab_succ] at X
    have e3 : wrap64 ((i : Int) + 1) = ((i + 1 : Nat) : Int) := wrap_succ (by omega)
    exact Ev.congr (fun k => by rw [e3]) X

theorem build_rows (V : Int) (ls : List S42) (hv : 0 ≤ V ∧ V ≤ 8) (hm : ls.length ≤ 16) (hs : List Int) (d : Nat) : ∀ (i : Nat), (i : Int) ≤ V → V.toNat - i = d →
    Ev (fun k => arcs_Build.l1 k V (i : Int) V ls (tab i (startAt (net V ls))) (rowsTo (net V ls) i) hs) (starts (net V ls), order (net V ls), hs, 0) := by
  induction d with
  | zero =>
    intro i hi hd
    have hiV : (i : Int) = V := by omega
    refine Ev.step (fun k => by rw [arcs_Build.l1]) ?_
    refine Ev.ite_neg (by omega) ?_
    refine Ev.ite_pos (by rw [tab_len]; omega) ?_
    have hV : (net V ls).V = i := by simp only [net]; omega
    have e1 : tab i (startAt (net V ls)) ++ [((rowsTo (net V ls) i).length : Int)] = starts (net V ls) := by
      unfold starts; rw [hV, tab_succ]; simp [startAt]
    have e2 : rowsTo (net V ls) i = order (net V ls) := by unfold order; rw [hV]
    rw [e1, e2]
    exact Ev.now _
  | succ d ih =>
    intro i hi hd
    have X := ih (i + 1) (by omega) (by omega)
    have hl := rowsTo_len (net V ls) i
    have hl2 := rowTo_len (net V ls) i (2 * (net V ls).m)
    have hl3 : i * (2 * (net V ls).m) ≤ 8 * 32 := Nat.mul_le_mul (by omega) (by rw [net_m]; omega)
    have hl4 : (net V ls).m ≤ 16 := by rw [net_m]; exact hm
    refine Ev.step (fun k => by rw [arcs_Build.l1]) ?_
    refine Ev.ite_pos (by omega) ?_
    refine Ev.ite_pos (by rw [tab_len]; omega) ?_
    refine Ev.bind (arcs_row_ev V ls (by omega) (i : Int)) ?_
    refine Ev.ite_pos (by unfold rowOf; omega) ?_
    rw [tab_succ] at X
    have e3 : wrap64 ((i : Int) + 1) = ((i + 1 : Nat) : Int) := wrap_succ (by omega)
    have e4 : startAt (net V ls) (i : Int) = ((rowsTo (net V ls) i).length : Int) := by simp [startAt]
    rw [e4] at X
    exact Ev.congr (fun k => by rw [e3]; rfl) X

theorem arcs_Build_ev (V : Int) (ls : List S42) : Ev (fun k => arcs_Build.f k V ls) (if GOk V ls then (starts (net V ls), order (net V ls), heads (net V ls), 0) else ([], [], [], 500)) := by
  unfold arcs_Build.f
  refine Ev.bind (graph_May_ev V ls) ?_
  by_cases h : GOk V ls
  · refine Ev.ite_pos (decide_eq_true h) ?_
    rw [if_pos h, twice_ (by have := h.m16; omega)]
    refine build_heads V ls h.m16 ?_ (2 * ls.length) 0 (by omega) (by omega)
    exact build_rows V ls ⟨by have := h.v2; omega, h.v8⟩ h.m16 _ V.toNat 0 (by have := h.v2; omega) (by omega)
  · refine Ev.ite_neg (by simp only [decide_eq_true_eq]; exact h) ?_
    rw [if_neg h]
    exact Ev.now _

theorem rowsTo_prefix (N : Net) {v w : Nat} (h : v ≤ w) : ∃ t, rowsTo N w = rowsTo N v ++ t := by
  induction w with
  | zero => obtain rfl : v = 0 := by omega
            exact ⟨[], by simp⟩
  | succ w ih =>
    by_cases e : v = w + 1
    · subst e; exact ⟨[], by simp⟩
    · obtain ⟨t, ht⟩ := ih (by omega)
      exact ⟨t ++ rowOf N (w : Int), by simp only [rowsTo]; rw [ht, List.append_assoc]⟩

theorem starts_len (N : Net) : (starts N).length = N.V + 1 := tab_len _ _

theorem rd_starts (N : Net) {v : Int} (h0 : 0 ≤ v) (h1 : v ≤ (N.V : Int)) : rd (starts N) v = startAt N v := rd_tab h0 (by omega)

theorem heads_len (N : Net) : (heads N).length = 2 * N.m := tab_len _ _

theorem rd_heads (N : Net) {k : Int} (h0 : 0 ≤ k) (h1 : k < 2 * (N.m : Int)) : rd (heads N) k = head N k := rd_tab h0 (by omega)

/-- the piece of Order that belongs to v -/
theorem order_row (N : Net) {v : Int} (h0 : 0 ≤ v) (h1 : v < (N.V : Int)) :
    startAt N v ≤ startAt N (v + 1) ∧ startAt N (v + 1) ≤ ((order N).length : Int) ∧ 0 ≤ startAt N v ∧ ((order N).take (startAt N (v + 1)).toNat).drop (startAt N v).toNat = rowOf N v ∧ startAt N (v + 1) = startAt N v + ((rowOf N v).length : Int) := by
  obtain ⟨t, ht⟩ := rowsTo_prefix N (v := v.toNat + 1) (w := N.V) (by omega)
  have e1 : (v + 1).toNat = v.toNat + 1 := by omega
  have e2 : rowsTo N (v.toNat + 1) = rowsTo N v.toNat ++ rowOf N v := by
    simp only [rowsTo]; rw [show ((v.toNat : Nat) : Int) = v by omega]
  unfold order startAt
  rw [ht, e1, e2]
  simp only [List.length_append, Int.toNat_natCast]
  refine ⟨by omega, by omega, by omega, ?_, by omega⟩
  rw [List.take_append_of_le_length (by simp), List.take_of_length_le (by simp), List.drop_append_of_le_length (Nat.le_refl _), List.drop_length, List.nil_append]

structure CapsOk (V : Int) (ls : List S42) (caps : List Int) : Prop where
  g : GOk V ls
  len : caps.length = ls.length
  le : ∀ i : Int, 0 ≤ i → i < (caps.length : Int) → 0 ≤ rd caps i ∧ rd caps i ≤ lC ls i

structure Win (caps f : List Int) : Prop where
  len : f.length = caps.length
  le : ∀ i : Int, 0 ≤ i → i < (f.length : Int) → 0 ≤ rd f i ∧ rd f i ≤ rd caps i

theorem takes_loop (V : Int) (ls : List S42) (caps : List Int) (hg : GOk V ls) (hl : caps.length = ls.length) (d : Nat) : ∀ (i : Nat), i ≤ caps.length → caps.length - i = d → (∀ j : Int, 0 ≤ j → j < (i : Int) → 0 ≤ rd caps j ∧ rd caps j ≤ lC ls j) →
    Ev (fun k => graph_Takes.l0 k caps (caps.length : Int) (i : Int) V ls) (decide (CapsOk V ls caps)) := by
  induction d with
  | zero =>
    intro i hi hd hp
    obtain rfl : i = caps.length := by omega
    refine Ev.step (fun k => by rw [graph_Takes.l0]) ?_
    refine Ev.ite_neg (by omega) ?_
    rw [decide_eq_true (⟨hg, hl, hp⟩ : CapsOk V ls caps)]
    exact Ev.now _
  | succ d ih =>
    intro i hi hd hp
    have hm := hg.m16
    refine Ev.step (fun k => by rw [graph_Takes.l0]) ?_
    refine Ev.ite_pos (by omega) ?_
    refine Ev.ite_pos (by omega) ?_
    refine Ev.ite_pos (by omega) ?_
    by_cases h1 : rd caps i < 0
    · refine Ev.ite_pos h1 ?_
      rw [decide_eq_false (fun h : CapsOk V ls caps => by have := h.le i (by omega) (by omega); omega)]
      exact Ev.now _
    · refine Ev.ite_neg h1 ?_
      refine Ev.ite_pos (by omega) ?_
      by_cases h2 : rd caps i > lC ls i
      · refine Ev.ite_pos h2 ?_
        rw [decide_eq_false (fun h : CapsOk V ls caps => by have := h.le i (by omega) (by omega); omega)]
        exact Ev.now _
      · refine Ev.ite_neg h2 ?_
        have X := ih (i + 1) (by omega) (by omega) (fun j a b => by
          by_cases e : j = i
          · subst e; omega
          · exact hp j a (by omega))
        have e3 : wrap64 ((i : Int) + 1) = ((i + 1 : Nat) : Int) := wrap_succ (by omega)
        exact Ev.congr (fun k => by rw [e3]) X

theorem graph_Takes_ev (V : Int) (ls : List S42) (caps : List Int) : Ev (fun k => graph_Takes.f k V ls caps) (decide (CapsOk V ls caps)) := by
  have no : ¬ CapsOk V ls caps → Ev (fun k => graph_Takes.j0 k caps true V ls) (decide (CapsOk V ls caps)) := by
    intro h
    rw [decide_eq_false h]
    refine Ev.step (fun k => by rw [graph_Takes.j0]) ?_
    exact Ev.ite_pos rfl (Ev.now _)
  unfold graph_Takes.f
  refine Ev.bind (graph_May_ev V ls) ?_
  by_cases h : GOk V ls
  · refine Ev.ite_pos (decide_eq_true h) ?_
    by_cases hl : caps.length = ls.length
    · have e : ((caps.length : Int) != (ls.length : Int)) = false := by simp [hl]
      rw [e]
      refine Ev.step (fun k => by rw [graph_Takes.j0]) ?_
      refine Ev.ite_neg (by simp) ?_
      exact takes_loop V ls caps h hl caps.length 0 (by omega) (by omega) (fun j a b => by omega)
    · have e : ((caps.length : Int) != (ls.length : Int)) = true := by simp; omega
      rw [e]
      exact no (fun g => hl g.len)
  · refine Ev.ite_neg (by simp only [decide_eq_true_eq]; exact h) ?_
    exact no (fun g => h g.g)

theorem capsmay_loop (V : Int) (ls : List S42) (caps : List Int) (hg : GOk V ls) (hl : caps.length = ls.length) (d : Nat) : ∀ (i : Nat), i ≤ caps.length → caps.length - i = d → (∀ j : Int, 0 ≤ j → j < (i : Int) → 0 ≤ rd caps j ∧ rd caps j ≤ lC ls j) →
    Ev (fun k => tollbarref4_CapsMay.l0 k caps (i : Int) V ls) (decide (CapsOk V ls caps)) := by
  induction d with
  | zero =>
    intro i hi hd hp
    obtain rfl : i = caps.length := by omega
    refine Ev.step (fun k => by rw [tollbarref4_CapsMay.l0]) ?_
    refine Ev.ite_neg (by omega) ?_
    rw [decide_eq_true (⟨hg, hl, hp⟩ : CapsOk V ls caps)]
    exact Ev.now _
  | succ d ih =>
    intro i hi hd hp
    have hm := hg.m16
    refine Ev.step (fun k => by rw [tollbarref4_CapsMay.l0]) ?_
    refine Ev.ite_pos (by omega) ?_
    refine Ev.ite_pos (by omega) ?_
    by_cases h1 : rd caps i < 0
    · refine Ev.ite_pos h1 ?_
      rw [decide_eq_false (fun h : CapsOk V ls caps => by have := h.le i (by omega) (by omega); omega)]
      exact Ev.now _
    · refine Ev.ite_neg h1 ?_
      refine Ev.ite_pos (by omega) ?_
      by_cases h2 : rd caps i > lC ls i
      · refine Ev.ite_pos h2 ?_
        rw [decide_eq_false (fun h : CapsOk V ls caps => by have := h.le i (by omega) (by omega); omega)]
        exact Ev.now _
      · refine Ev.ite_neg h2 ?_
        have X := ih (i + 1) (by omega) (by omega) (fun j a b => by
          by_cases e : j = i
          · subst e; omega
          · exact hp j a (by omega))
        have e3 : wrap64 ((i : Int) + 1) = ((i + 1 : Nat) : Int) := wrap_succ (by omega)
        exact Ev.congr (fun k => by rw [e3]) X

theorem ref_CapsMay_ev (V : Int) (ls : List S42) (caps : List Int) : Ev (fun k => tollbarref4_CapsMay.f k V ls caps) (decide (CapsOk V ls caps)) := by
  have no : ¬ CapsOk V ls caps → Ev (fun k => tollbarref4_CapsMay.j0 k caps true V ls) (decide (CapsOk V ls caps)) := by
    intro h
    rw [decide_eq_false h]
    refine Ev.step (fun k => by rw [tollbarref4_CapsMay.j0]) ?_
    exact Ev.ite_pos rfl (Ev.now _)
  unfold tollbarref4_CapsMay.f
  refine Ev.bind (ref_GraphMay_ev V ls) ?_
  by_cases h : GOk V ls
  · refine Ev.ite_pos (decide_eq_true h) ?_
    by_cases hl : caps.length = ls.length
    · have e : ((caps.length : Int) != (ls.length : Int)) = false := by simp [hl]
      rw [e]
      refine Ev.step (fun k => by rw [tollbarref4_CapsMay.j0]) ?_
      refine Ev.ite_neg (by simp) ?_
      exact capsmay_loop V ls caps h hl caps.length 0 (by omega) (by omega) (fun j a b => by omega)
    · have e : ((caps.length : Int) != (ls.length : Int)) = true := by simp; omega
      rw [e]
      exact no (fun g => hl g.len)
  · refine Ev.ite_neg (by simp only [decide_eq_true_eq]; exact h) ?_
    exact no (fun g => h g.g)

theorem within_loop (caps f : List Int) (hl : f.length = caps.length) (hx : f.length ≤ 17592186044416) (d : Nat) : ∀ (i : Nat), i ≤ f.length → f.length - i = d → (∀ j : Int, 0 ≤ j → j < (i : Int) → 0 ≤ rd f j ∧ rd f j ≤ rd caps j) →
    Ev (fun k => tollbarref4_Within.l0 k caps f (i : Int)) (decide (Win caps f)) := by
  induction d with
  | zero =>
    intro i hi hd hp
    obtain rfl : i = f.length := by omega
    refine Ev.step (fun k => by rw [tollbarref4_Within.l0]) ?_
    refine Ev.ite_neg (by omega) ?_
    rw [decide_eq_true (⟨hl, hp⟩ : Win caps f)]
    exact Ev.now _
  | succ d ih =>
    intro i hi hd hp
    refine Ev.step (fun k => by rw [tollbarref4_Within.l0]) ?_
    refine Ev.ite_pos (by omega) ?_
    refine Ev.ite_pos (by omega) ?_
    by_cases h1 : rd f i < 0
    · refine Ev.ite_pos h1 ?_
      rw [decide_eq_false (fun h : Win caps f => by have := h.le i (by omega) (by omega); omega)]
      exact Ev.now _
    · refine Ev.ite_neg h1 ?_
      refine Ev.ite_pos (by omega) ?_
      by_cases h2 : rd f i > rd caps i
      · refine Ev.ite_pos h2 ?_
        rw [decide_eq_false (fun h : Win caps f => by have := h.le i (by omega) (by omega); omega)]
        exact Ev.now _
      · refine Ev.ite_neg h2 ?_
        have X := ih (i + 1) (by omega) (by omega) (fun j a b => by
          by_cases e : j = i
          · subst e; omega
          · exact hp j a (by omega))
        have e3 : wrap64 ((i : Int) + 1) = ((i + 1 : Nat) : Int) := wrap_succ (by omega)
        exact Ev.congr (fun k => by rw [e3]) X

theorem ref_Within_ev (caps f : List Int) (hx : f.length ≤ 17592186044416) : Ev (fun k => tollbarref4_Within.f k caps f) (decide (Win caps f)) := by
  unfold tollbarref4_Within.f
  by_cases hl : f.length = caps.length
  · refine Ev.ite_pos (by omega) ?_
    exact within_loop caps f hl hx f.length 0 (by omega) (by omega) (fun j a b => by omega)
  · refine Ev.ite_neg (by omega) ?_
    rw [decide_eq_false (fun h : Win caps f => hl h.len)]
    exact Ev.now _

theorem lies_loop (caps f : List Int) (hl : f.length = caps.length) (hx : f.length ≤ 17592186044416) (d : Nat) : ∀ (i : Nat), i ≤ f.length → f.length - i = d → (∀ j : Int, 0 ≤ j → j < (i : Int) → 0 ≤ rd f j ∧ rd f j ≤ rd caps j) →
    Ev (fun k => stream_Lies.l0 k caps f (f.length : Int) (i : Int)) (decide (Win caps f)) := by
  induction d with
  | zero =>
    intro i hi hd hp
    obtain rfl : i = f.length := by omega
    refine Ev.step (fun k => by rw [stream_Lies.l0]) ?_
    refine Ev.ite_neg (by omega) ?_
    rw [decide_eq_true (⟨hl, hp⟩ : Win caps f)]
    exact Ev.now _
  | succ d ih =>
    intro i hi hd hp
    refine Ev.step (fun k => by rw [stream_Lies.l0]) ?_
    refine Ev.ite_pos (by omega) ?_
    refine Ev.ite_pos (by omega) ?_
    refine Ev.ite_pos (by omega) ?_
    by_cases h1 : rd f i < 0
    · refine Ev.ite_pos h1 ?_
      rw [decide_eq_false (fun h : Win caps f => by have := h.le i (by omega) (by omega); omega)]
      exact Ev.now _
    · refine Ev.ite_neg h1 ?_
      refine Ev.ite_pos (by omega) ?_
      by_cases h2 : rd f i > rd caps i
      · refine Ev.ite_pos h2 ?_
        rw [decide_eq_false (fun h : Win caps f => by have := h.le i (by omega) (by omega); omega)]
        exact Ev.now _
      · refine Ev.ite_neg h2 ?_
        have X := ih (i + 1) (by omega) (by omega) (fun j a b => by
          by_cases e : j = i
          · subst e; omega
          · exact hp j a (by omega))
        have e3 : wrap64 ((i : Int) + 1) = ((i + 1 : Nat) : Int) := wrap_succ (by omega)
        exact Ev.congr (fun k => by rw [e3]) X

theorem stream_Lies_ev (V : Int) (ls : List S42) (caps f : List Int) : Ev (fun k => stream_Lies.f k V ls caps f) (decide (CapsOk V ls caps ∧ Win caps f)) := by
  have no : ¬ (CapsOk V ls caps ∧ Win caps f) → Ev (fun k => stream_Lies.j0 k caps f true) (decide (CapsOk V ls caps ∧ Win caps f)) := by
    intro h
    rw [decide_eq_false h]
    refine Ev.step (fun k => by rw [stream_Lies.j0]) ?_
    exact Ev.ite_pos rfl (Ev.now _)
  unfold stream_Lies.f
  refine Ev.bind (graph_Takes_ev V ls caps) ?_
  by_cases h : CapsOk V ls caps
  · refine Ev.ite_pos (decide_eq_true h) ?_
    by_cases hl : f.length = caps.length
    · have e : ((f.length : Int) != (caps.length : Int)) = false := by simp [hl]
      rw [e]
      refine Ev.step (fun k => by rw [stream_Lies.j0]) ?_
      refine Ev.ite_neg (by simp) ?_
      have e2 : (CapsOk V ls caps ∧ Win caps f) = Win caps f := by simp [h]
      simp only [e2]
      exact lies_loop caps f hl (by have := h.g.m16; have := h.len; omega) f.length 0 (by omega) (by omega) (fun j a b => by omega)
    · have e : ((f.length : Int) != (caps.length : Int)) = true := by simp; omega
      rw [e]
      exact no (fun g => hl g.2.len)
  · refine Ev.ite_neg (by simp only [decide_eq_true_eq]; exact h) ?_
    exact no (fun g => h g.1)

/-- a list within a graph's own caps -/
structure Fine (V : Int) (ls : List S42) (f : List Int) : Prop where
  g : GOk V ls
  len : f.length = ls.length
  le : ∀ i : Int, 0 ≤ i → i < (ls.length : Int) → 0 ≤ rd f i ∧ rd f i ≤ lC ls i

theorem Fine.of {V : Int} {ls : List S42} {caps f : List Int} (h : CapsOk V ls caps) (w : Win caps f) : Fine V ls f :=
  ⟨h.g, by rw [w.len, h.len], fun i a b => by
    have h1 := w.le i a (by rw [w.len, h.len]; exact b)
    have h2 := h.le i a (by rw [h.len]; exact b)
    omega⟩

theorem stream_Left_eq {caps f : List Int} (hl : f.length = caps.length) (hm : f.length ≤ 4096) (hw : ∀ i : Int, 0 ≤ i → i < (f.length : Int) → 0 ≤ rd f i ∧ rd f i ≤ rd caps i) (hc : ∀ i : Int, 0 ≤ i → i < (f.length : Int) → rd caps i ≤ 4611686018427387904) {k : Int} (h0 : 0 ≤ k) (h1 : k < 2 * (f.length : Int)) :
    stream_Left.f caps f k = some (room (rd caps) (rd f) k) := by
  unfold stream_Left.f
  have h2 := hw (k / 2) (by omega) (by omega)
  have h3 := hc (k / 2) (by omega) (by omega)
  rw [half h0 (by omega), odd_ h0]
  unfold room
  by_cases h : k % 2 = 1
  · rw [if_pos h, if_pos (by omega), if_pos (by omega), if_pos h]
  · rw [if_neg h, if_pos (by omega), if_pos (by omega), if_pos (by omega), if_neg h, wrap_id (by omega) (by omega)]

theorem ref_room_eq {caps f : List Int} (hl : f.length = caps.length) (hm : f.length ≤ 4096) (hw : ∀ i : Int, 0 ≤ i → i < (f.length : Int) → 0 ≤ rd f i ∧ rd f i ≤ rd caps i) (hc : ∀ i : Int, 0 ≤ i → i < (f.length : Int) → rd caps i ≤ 4611686018427387904) {k : Int} (h0 : 0 ≤ k) (h1 : k < 2 * (f.length : Int)) :
    tollbarref4_room.f caps f k = some (room (rd caps) (rd f) k) := by
  unfold tollbarref4_room.f
  have h2 := hw (k / 2) (by omega) (by omega)
  have h3 := hc (k / 2) (by omega) (by omega)
  rw [half h0 (by omega), odd_ h0]
  unfold room
  by_cases h : k % 2 = 1
  · rw [if_neg (by omega), if_pos (by omega), if_pos (by omega), if_pos h]
  · rw [if_pos (by omega), if_pos (by omega), if_pos (by omega), if_pos (by omega), if_neg h, wrap_id (by omega) (by omega)]

theorem CapsOk.small {V : Int} {ls : List S42} {caps : List Int} (h : CapsOk V ls caps) {i : Int} (h0 : 0 ≤ i) (h1 : i < (caps.length : Int)) : rd caps i ≤ 4611686018427387904 := by
  have h2 := h.le i h0 h1
  have h3 := h.g.cap_le (i := i) h0 (by rw [← h.len]; exact h1)
  omega

theorem left_ok {V : Int} {ls : List S42} {caps f : List Int} (h : CapsOk V ls caps) (w : Win caps f) {k : Int} (h0 : 0 ≤ k) (h1 : k < 2 * (ls.length : Int)) : stream_Left.f caps f k = some (room (rd caps) (rd f) k) := by
  have e1 := w.len
  have e2 := h.len
  have e3 := h.g.m16
  exact stream_Left_eq w.len (by omega) w.le (fun i a b => h.small a (by omega)) h0 (by omega)

theorem ref_room_ok {V : Int} {ls : List S42} {caps f : List Int} (h : CapsOk V ls caps) (w : Win caps f) {k : Int} (h0 : 0 ≤ k) (h1 : k < 2 * (ls.length : Int)) : tollbarref4_room.f caps f k = some (room (rd caps) (rd f) k) := by
  have e1 := w.len
  have e2 := h.len
  have e3 := h.g.m16
  exact ref_room_eq w.len (by omega) w.le (fun i a b => h.small a (by omega)) h0 (by omega)

theorem same_loop (xs ys : List Int) (hl : xs.length = ys.length) (hx : xs.length ≤ 17592186044416) (d : Nat) : ∀ (i : Nat), i ≤ xs.length → xs.length - i = d → (∀ j : Int, 0 ≤ j → j < (i : Int) → rd xs j = rd ys j) →
    Ev (fun k => tollbarref19_SameInts.l0 k xs ys (i : Int)) (decide (xs = ys)) := by
  induction d with
  | zero =>
    intro i hi hd hp
    obtain rfl : i = xs.length := by omega
    refine Ev.step (fun k => by rw [tollbarref19_SameInts.l0]) ?_
    refine Ev.ite_neg (by omega) ?_
    rw [decide_eq_true (rd_ext hl hp)]
    exact Ev.now _
  | succ d ih =>
    intro i hi hd hp
    refine Ev.step (fun k => by rw [tollbarref19_SameInts.l0]) ?_
    refine Ev.ite_pos (by omega) ?_
    refine Ev.ite_pos (by omega) ?_
    refine Ev.ite_pos (by omega) ?_
    by_cases h : rd xs i = rd ys i
    · refine Ev.ite_pos h ?_
      have X := ih (i + 1) (by omega) (by omega) (fun j a b => by
        by_cases e : j = i
        · subst e; exact h
        · exact hp j a (by omega))
      have e3 : wrap64 ((i : Int) + 1) = ((i + 1 : Nat) : Int) := wrap_succ (by omega)
      exact Ev.congr (fun k => by rw [e3]) X
    · refine Ev.ite_neg h ?_
      rw [decide_eq_false (fun e => h (by rw [e]))]
      exact Ev.now _

theorem ref_SameInts_ev (xs ys : List Int) (hx : xs.length ≤ 17592186044416) : Ev (fun k => tollbarref19_SameInts.f k xs ys) (decide (xs = ys)) := by
  unfold tollbarref19_SameInts.f
  by_cases hl : xs.length = ys.length
  · refine Ev.ite_pos (by omega) ?_
    exact same_loop xs ys hl hx xs.length 0 (by omega) (by omega) (fun j a b => by omega)
  · refine Ev.ite_neg (by omega) ?_
    rw [decide_eq_false (fun e => hl (by rw [e]))]
    exact Ev.now _

theorem SameInts_ev (xs ys : List Int) (hx : xs.length ≤ 17592186044416) : Ev (fun k => tollbarlaw0_SameInts.f k xs ys) (decide (xs = ys)) := by
  unfold tollbarlaw0_SameInts.f
  exact Ev.bind (ref_SameInts_ev xs ys hx) (Ev.now _)

theorem SameInts_self (xs : List Int) (hx : xs.length ≤ 17592186044416) : Ev (fun k => tollbarlaw0_SameInts.f k xs xs) true := by
  have := SameInts_ev xs xs hx
  rwa [decide_eq_true rfl] at this

theorem spoil_loop (n : Nat) (hx : n ≤ 17592186044416) (d : Nat) : ∀ (i : Nat) (xs : List Int), xs.length = n → i ≤ n → n - i = d →
    ∃ r, Ev (fun k => tollbarlaw0_SpoilInts.l0 k xs (i : Int)) r := by
  induction d with
  | zero =>
    intro i xs hl hi hd
    refine ⟨xs, Ev.step (fun k => by rw [tollbarlaw0_SpoilInts.l0]) ?_⟩
    refine Ev.ite_neg (by omega) ?_
    exact Ev.now _
  | succ d ih =>
    intro i xs hl hi hd
    obtain ⟨r, X⟩ := ih (i + 1) (xs.set ((i : Int) : Int).toNat (wrap64 ((-9) - (Int.tmod (rd xs (i : Int)) 1000)))) (by rw [List.length_set]; exact hl) (by omega) (by omega)
    refine ⟨r, Ev.step (fun k => by rw [tollbarlaw0_SpoilInts.l0]) ?_⟩
    refine Ev.ite_pos (by omega) ?_
    refine Ev.ite_pos (by omega) ?_
    have e3 : wrap64 ((i : Int) + 1) = ((i + 1 : Nat) : Int) := wrap_succ (by omega)
    exact Ev.congr (fun k => by rw [e3]) X

theorem SpoilInts_ev (xs : List Int) (hx : xs.length ≤ 17592186044416) : ∃ r, Ev (fun k => tollbarlaw0_SpoilInts.f k xs) r := spoil_loop xs.length hx xs.length 0 xs rfl (by omega) (by omega)

theorem rowOf_small {V : Int} {ls : List S42} (h : GOk V ls) (v : Int) : (rowOf (net V ls) v).length ≤ 32 := by
  have h1 := rowTo_len (net V ls) v (2 * (net V ls).m)
  have h3 := h.m16
  rw [net_m] at h1
  unfold rowOf
  rw [net_m]
  omega

theorem tail_vert {V : Int} {ls : List S42} (h : GOk V ls) {k : Int} (hk : (net V ls).arc k) : 0 ≤ tail (net V ls) k ∧ tail (net V ls) k < V := by
  unfold Net.arc at hk
  rw [net_m] at hk
  have h1 := h.end_ (i := k / 2) (by omega) (by omega)
  unfold tail
  split
  · exact h1.2.1
  · exact h1.1

theorem head_vert {V : Int} {ls : List S42} (h : GOk V ls) {k : Int} (hk : (net V ls).arc k) : 0 ≤ head (net V ls) k ∧ head (net V ls) k < V := by
  unfold Net.arc at hk
  rw [net_m] at hk
  have h1 := h.end_ (i := k / 2) (by omega) (by omega)
  unfold head
  split
  · exact h1.1
  · exact h1.2.1

theorem res_vert {V : Int} {ls : List S42} (h : GOk V ls) {c f : Int → Int} {u v : Int} (r : Res (net V ls) c f u v) : (0 ≤ u ∧ u < V) ∧ (0 ≤ v ∧ v < V) := by
  obtain ⟨k, ha, ht, hh, _⟩ := r
  exact ⟨by rw [← ht]; exact tail_vert h ha, by rw [← hh]; exact head_vert h ha⟩

theorem rd_mem {xs : List Int} {i : Int} (h0 : 0 ≤ i) (h1 : i < (xs.length : Int)) : rd xs i ∈ xs := gd_mem (by omega)

theorem mem_rd {xs : List Int} {x : Int} (h : x ∈ xs) : ∃ i : Int, 0 ≤ i ∧ i < (xs.length : Int) ∧ rd xs i = x := by
  obtain ⟨i, hi, e⟩ := mem_gd 0 h
  exact ⟨(i : Int), by omega, by omega, by unfold rd; rw [Int.toNat_natCast]; exact e⟩

/-- half way through: out tells levels, row is yet to be gone on from -/
structure Bfs (V : Nat) (E : Int → Int → Prop) (s : Int) (out row : List Int) : Prop where
  len : out.length = V
  src : rd out s = 0
  low : ∀ v : Int, 0 ≤ v → v < (V : Int) → -1 ≤ rd out v
  back : ∀ v : Int, 0 ≤ v → v < (V : Int) → 1 ≤ rd out v → ∃ u : Int, 0 ≤ u ∧ u < (V : Int) ∧ E u v ∧ rd out u = rd out v - 1
  zero : ∀ v : Int, 0 ≤ v → v < (V : Int) → rd out v = 0 → v = s
  rowv : ∀ x ∈ row, (0 ≤ x ∧ x < (V : Int)) ∧ 0 ≤ rd out x
  first : ∀ x ∈ row, rd out (rd row 0) ≤ rd out x
  sorted : ∀ i j : Int, 0 ≤ i → i ≤ j → j < (row.length : Int) → rd out (rd row i) ≤ rd out (rd row j)
  top : row ≠ [] → ∀ v : Int, 0 ≤ v → v < (V : Int) → rd out v ≤ rd out (rd row 0) + 1
  done : ∀ v : Int, 0 ≤ v → v < (V : Int) → 0 ≤ rd out v → v ∉ row → ∀ w : Int, 0 ≤ w → w < (V : Int) → E v w → 0 ≤ rd out w ∧ rd out w ≤ rd out v + 1

def unl (V : Nat) (out : List Int) : Int := cnt V (fun v => decide (rd out v < 0))

def meas (V : Nat) (out row : List Int) : Int := 2 * unl V out + (row.length : Int)

theorem Bfs.lev {V : Nat} {E : Int → Int → Prop} {s : Int} {out : List Int} (h : Bfs V E s out []) : Lev V E s (rd out) :=
  ⟨h.src, h.low, fun u v u0 u1 v0 v1 hE hu => h.done u u0 u1 hu (by simp) v v0 v1 hE, h.back, h.zero⟩

theorem cnt_drop {V : Nat} {out : List Int} {w x : Int} (w0 : 0 ≤ w) (w1 : w < (V : Int)) (hl : out.length = V) (hw : rd out w < 0) (hx : 0 ≤ x) : unl V (out.set w.toNat x) + 1 ≤ unl V out := by
  unfold unl
  refine cnt_lt (fun v v0 v1 hv => ?_) w0 w1 ?_ (decide_eq_true hw)
  · rw [decide_eq_true_eq] at hv ⊢
    rw [rd_set w0 (by omega) v0] at hv
    by_cases e : v = w
    · subst e; exact hw
    · rwa [if_neg e] at hv
  · rw [decide_eq_false_iff_not, rd_set w0 (by omega) w0, if_pos rfl]; omega

theorem rd_zero_cons {x : Int} {xs : List Int} : rd (x :: xs) 0 = x := rfl

theorem rd_succ_cons {x : Int} {xs : List Int} {i : Int} (h : 0 ≤ i) : rd (x :: xs) (i + 1) = rd xs i := by
  unfold rd
  rw [show (i + 1).toNat = i.toNat + 1 by omega]
  simp

/-- a vertex that had no level gets one more than the first of the row, and stands behind -/
theorem Bfs.label {V : Nat} {E : Int → Int → Prop} {s : Int} {out row : List Int} (h : Bfs V E s out row) (hr : 0 < row.length) (hE : ∀ u v : Int, E u v → 0 ≤ v ∧ v < (V : Int)) {w : Int} (w0 : 0 ≤ w) (w1 : w < (V : Int)) (hw : rd out w < 0) (he : E (rd row 0) w) :
    Bfs V E s (out.set w.toNat (rd out (rd row 0) + 1)) (row ++ [w]) := by
  have hl := h.len
  have hv := h.rowv (rd row 0) (rd_mem (by omega) (by omega))
  have hrw : ∀ v : Int, 0 ≤ v → rd (out.set w.toNat (rd out (rd row 0) + 1)) v = if v = w then rd out (rd row 0) + 1 else rd out v := fun v v0 => rd_set w0 (by omega) v0
  have hne : ∀ x ∈ row, x ≠ w := fun x hx e => by have := (h.rowv x hx).2; rw [e] at this; omega
  have h0 : rd (row ++ [w]) 0 = rd row 0 := rd_left (by omega) (by omega)
  have hf : rd (out.set w.toNat (rd out (rd row 0) + 1)) (rd row 0) = rd out (rd row 0) := by rw [hrw _ hv.1.1, if_neg (hne _ (rd_mem (by omega) (by omega)))]
  have htop := h.top (by intro e; rw [e] at hr; simp at hr)
  refine ⟨by rw [List.length_set]; exact hl, ?_, ?_, ?_, ?_, ?_, ?_, ?_, ?_, ?_⟩
  · have hs0 := h.src
    by_cases e : s = w
    · rw [e] at hs0; omega
    · by_cases s0 : 0 ≤ s
      · rw [hrw s s0, if_neg e]; exact hs0
      · by_cases ew : w = 0
        · exfalso
          have : rd out s = rd out w := by unfold rd; rw [ew, show s.toNat = (0 : Int).toNat by omega]
          omega
        · unfold rd at hs0 ⊢
          rw [gd_set_ne (by omega)]; exact hs0
  · intro v v0 v1
    rw [hrw v v0]
    split
    · omega
    · exact h.low v v0 v1
  · intro v v0 v1 hv1
    rw [hrw v v0] at hv1 ⊢
    by_cases e : v = w
    · subst e
      rw [if_pos rfl]
      exact ⟨rd row 0, hv.1.1, hv.1.2, he, by rw [hf]; omega⟩
    · rw [if_neg e] at hv1 ⊢
      obtain ⟨u, u0, u1, hEu, hu⟩ := h.back v v0 v1 hv1
      refine ⟨u, u0, u1, hEu, ?_⟩
      rw [hrw u u0, if_neg (fun e2 => by rw [e2] at hu; omega)]
      exact hu
  · intro v v0 v1 hz
    rw [hrw v v0] at hz
    by_cases e : v = w
    · rw [if_pos e] at hz; omega
    · rw [if_neg e] at hz
      exact h.zero v v0 v1 hz
  · intro x hx
    rcases List.mem_append.1 hx with hx | hx
    · have := h.rowv x hx
      exact ⟨this.1, by rw [hrw x this.1.1, if_neg (hne x hx)]; exact this.2⟩
    · rw [List.mem_singleton.1 hx]
      exact ⟨⟨w0, w1⟩, by rw [hrw w w0, if_pos rfl]; omega⟩
  · intro x hx
    rw [h0, hf]
    rcases List.mem_append.1 hx with hx | hx
    · rw [hrw x (h.rowv x hx).1.1, if_neg (hne x hx)]
      exact h.first x hx
    · rw [List.mem_singleton.1 hx, hrw w w0, if_pos rfl]; omega
  · intro i j i0 ij jl
    rw [List.length_append] at jl
    simp only [List.length_cons, List.length_nil] at jl
    by_cases hj : j < (row.length : Int)
    · rw [rd_left i0 (by omega), rd_left (by omega) hj]
      have m1 := rd_mem (xs := row) i0 (by omega)
      have m2 := rd_mem (xs := row) (i := j) (by omega) hj
      rw [hrw _ (h.rowv _ m1).1.1, if_neg (hne _ m1), hrw _ (h.rowv _ m2).1.1, if_neg (hne _ m2)]
      exact h.sorted i j i0 ij hj
    · have ej : j = (row.length : Int) := by omega
      have e2 : rd (row ++ [w]) j = w := by rw [ej]; exact rd_new
      rw [e2, hrw w w0, if_pos rfl]
      by_cases hi : i < (row.length : Int)
      · have m1 := rd_mem (xs := row) i0 hi
        rw [rd_left i0 hi, hrw _ (h.rowv _ m1).1.1, if_neg (hne _ m1)]
        exact htop _ (h.rowv _ m1).1.1 (h.rowv _ m1).1.2
      · have ei : i = (row.length : Int) := by omega
        have e3 : rd (row ++ [w]) i = w := by rw [ei]; exact rd_new
        rw [e3, hrw w w0, if_pos rfl]
        exact Int.le_refl _
  · intro _ v v0 v1
    rw [h0, hf, hrw v v0]
    split
    · exact Int.le_refl _
    · exact htop v v0 v1
  · intro v v0 v1 hv1 hn u u0 u1 hEu
    have hnr : v ∉ row := fun hx => hn (List.mem_append.2 (.inl hx))
    have hnw : v ≠ w := fun e => hn (List.mem_append.2 (.inr (by rw [e]; exact List.mem_singleton.2 rfl)))
    rw [hrw v v0, if_neg hnw] at hv1 ⊢
    have hd := h.done v v0 v1 hv1 hnr u u0 u1 hEu
    rw [hrw u u0, if_neg (fun e => by rw [e] at hd; omega)]
    exact hd

/-- the first of the row is done with -/
theorem Bfs.pop {V : Nat} {E : Int → Int → Prop} {s : Int} {out row : List Int} (h : Bfs V E s out row) (hr : 0 < row.length) (hd : ∀ w : Int, 0 ≤ w → w < (V : Int) → E (rd row 0) w → 0 ≤ rd out w ∧ rd out w ≤ rd out (rd row 0) + 1) :
    Bfs V E s out (row.drop 1) := by
  obtain ⟨x, t, rfl⟩ : ∃ x t, row = x :: t := by
    cases row with
    | nil => simp at hr
    | cons x t => exact ⟨x, t, rfl⟩
  rw [rd_zero_cons] at hd
  show Bfs V E s out t
  have hlast : ∀ i j : Int, 0 ≤ i → i ≤ j → j < (t.length : Int) → rd out (rd t i) ≤ rd out (rd t j) := by
    intro i j i0 ij jl
    have := h.sorted (i + 1) (j + 1) (by omega) (by omega) (by simp only [List.length_cons]; omega)
    rwa [rd_succ_cons i0, rd_succ_cons (by omega)] at this
  refine ⟨h.len, h.src, h.low, h.back, h.zero, fun y hy => h.rowv y (List.mem_cons_of_mem _ hy), ?_, hlast, ?_, ?_⟩
  · intro y hy
    obtain ⟨i, i0, i1, e⟩ := mem_rd hy
    rw [← e]
    exact hlast 0 i (by omega) i0 i1
  · intro hne v v0 v1
    have h1 := h.top (by simp) v v0 v1
    rw [rd_zero_cons] at h1
    have h2 := h.first (rd t 0) (List.mem_cons_of_mem _ (rd_mem (by omega) (by have := List.length_pos_iff.2 hne; omega)))
    rw [rd_zero_cons] at h2
    omega
  · intro v v0 v1 hv hn w w0 w1 hE
    by_cases e : v = x
    · subst e; exact hd w w0 w1 hE
    · exact h.done v v0 v1 hv (by intro hm; rcases List.mem_cons.1 hm with hm | hm; exact e hm; exact hn hm) w w0 w1 hE

theorem Bfs.many {V : Nat} {E : Int → Int → Prop} {s : Int} {out row : List Int} (h : Bfs V E s out row) (d : Nat) :
    ∀ v : Int, 0 ≤ v → v < (V : Int) → rd out v = d → (d : Int) + 1 ≤ cnt V (fun u => decide (0 ≤ rd out u ∧ rd out u ≤ d)) := by
  induction d with
  | zero =>
    intro v h0 h1 e
    have := cnt_lt (V := V) (P := fun _ => false) (Q := fun u => decide (0 ≤ rd out u ∧ rd out u ≤ (0 : Nat))) (by simp) h0 h1 rfl (by simp; omega)
    have := cnt_nonneg V (fun _ => false)
    omega
  | succ d ih =>
    intro v h0 h1 e
    obtain ⟨u, u0, u1, hE, hu⟩ := h.back v h0 h1 (by omega)
    have h2 := ih u u0 u1 (by omega)
    have h3 := cnt_lt (V := V) (P := fun u => decide (0 ≤ rd out u ∧ rd out u ≤ d)) (Q := fun u => decide (0 ≤ rd out u ∧ rd out u ≤ ((d + 1 : Nat) : Int)))
      (fun w _ _ hw => by simp at hw ⊢; omega) h0 h1 (by simp; omega) (by simp; omega)
    omega

theorem bfs_lt {V : Nat} {E : Int → Int → Prop} {s : Int} {out row : List Int} (h : Bfs V E s out row) (v : Int) (h0 : 0 ≤ v) (h1 : v < (V : Int)) : rd out v < V := by
  by_cases a : 0 ≤ rd out v
  · have h2 := h.many (rd out v).toNat v h0 h1 (by omega)
    have h3 := cnt_le V (fun u => decide (0 ≤ rd out u ∧ rd out u ≤ ((rd out v).toNat : Int)))
    omega
  · omega

theorem unl_nonneg (V : Nat) (out : List Int) : 0 ≤ unl V out := cnt_nonneg _ _

theorem unl_le (V : Nat) (out : List Int) : unl V out ≤ V := cnt_le _ _

section
variable {V : Int} {ls : List S42} {caps f : List Int} {s : Int}

theorem bfs_inner (hc : CapsOk V ls caps) (hw : Win caps f) (M : Int) (hMs : M ≤ 1000) (ih : ∀ out row : List Int, Bfs V.toNat (Res (net V ls) (rd caps) (rd f)) s out row → meas V.toNat out row < M →
      ∃ r : List Int, r.length = V.toNat ∧ Lev V.toNat (Res (net V ls) (rd caps) (rd f)) s (rd r) ∧ Ev (fun k => level_Levels.l0 k caps f out row (starts (net V ls)) (order (net V ls)) (heads (net V ls))) (r, 0)) (v : Int) (d : Nat) :
    ∀ (i : Nat) (out row : List Int), i ≤ (rowOf (net V ls) v).length → (rowOf (net V ls) v).length - i = d → Bfs V.toNat (Res (net V ls) (rd caps) (rd f)) s out row → 0 < row.length → rd row 0 = v → meas V.toNat out row ≤ M →
      (∀ j : Int, 0 ≤ j → j < (i : Int) → 0 < room (rd caps) (rd f) (rd (rowOf (net V ls) v) j) → 0 ≤ rd out (head (net V ls) (rd (rowOf (net V ls) v) j)) ∧ rd out (head (net V ls) (rd (rowOf (net V ls) v) j)) ≤ rd out v + 1) →
      ∃ r : List Int, r.length = V.toNat ∧ Lev V.toNat (Res (net V ls) (rd caps) (rd f)) s (rd r) ∧ Ev (fun k => level_Levels.l1 k caps f out row v (rowOf (net V ls) v) ((rowOf (net V ls) v).length : Int) (i : Int) (starts (net V ls)) (order (net V ls)) (heads (net V ls))) (r, 0) := by
  have hv8 := hc.g.v8
  have hv2 := hc.g.v2
  have hm := hc.g.m16
  have hhl := heads_len (net V ls)
  rw [net_m] at hhl
  have hEv : ∀ u w : Int, Res (net V ls) (rd caps) (rd f) u w → 0 ≤ w ∧ w < (V.toNat : Int) := fun u w r => by have := (res_vert hc.g r).2; omega
  induction d with
  | zero =>
    intro i out row hi hd hB hr hv hM hp
    have hi2 : i = (rowOf (net V ls) v).length := by omega
    have hB2 := hB.pop hr (by
      intro w w0 w1 hE
      rw [hv] at hE ⊢
      obtain ⟨k, ha, ht, hh, hroom⟩ := hE
      obtain ⟨j, j0, j1, ej⟩ := mem_rd (rowOf_mem.2 ⟨ha, ht⟩)
      have := hp j j0 (by omega) (by rw [ej]; exact hroom)
      rw [ej, hh] at this
      exact this)
    have hdl : (row.drop 1).length = row.length - 1 := by simp
    obtain ⟨r, r1, r2, r3⟩ := ih out (row.drop 1) hB2 (by unfold meas at hM ⊢; omega)
    refine ⟨r, r1, r2, Ev.step (fun k => by rw [level_Levels.l1]) ?_⟩
    refine Ev.ite_neg (by omega) ?_
    refine Ev.ite_pos (by omega) ?_
    exact r3
  | succ d ihd =>
    intro i out row hi hd hB hr hv hM hp
    have hmem := rd_mem (xs := rowOf (net V ls) v) (i := (i : Int)) (by omega) (by omega)
    obtain ⟨ha, ht⟩ := rowOf_mem.1 hmem
    have ha2 := ha
    unfold Net.arc at ha2
    rw [net_m] at ha2
    have hh := head_vert hc.g ha
    have eh : rd (heads (net V ls)) (rd (rowOf (net V ls) v) (i : Int)) = head (net V ls) (rd (rowOf (net V ls) v) (i : Int)) := rd_heads _ ha2.1 (by rw [net_m]; exact ha2.2)
    have hvv := hB.rowv v (by rw [← hv]; exact rd_mem (by omega) (by omega))
    have hol := hB.len
    have next : ∀ (out' row' : List Int), Bfs V.toNat (Res (net V ls) (rd caps) (rd f)) s out' row' → 0 < row'.length → rd row' 0 = v → meas V.toNat out' row' ≤ M →
        (∀ j : Int, 0 ≤ j → j < ((i + 1 : Nat) : Int) → 0 < room (rd caps) (rd f) (rd (rowOf (net V ls) v) j) → 0 ≤ rd out' (head (net V ls) (rd (rowOf (net V ls) v) j)) ∧ rd out' (head (net V ls) (rd (rowOf (net V ls) v) j)) ≤ rd out' v + 1) →
        ∃ r : List Int, r.length = V.toNat ∧ Lev V.toNat (Res (net V ls) (rd caps) (rd f)) s (rd r) ∧ Ev (fun k => level_Levels.l1 k caps f out' row' v (rowOf (net V ls) v) ((rowOf (net V ls) v).length : Int) (wrap64 ((i : Int) + 1)) (starts (net V ls)) (order (net V ls)) (heads (net V ls))) (r, 0) := by
      intro out' row' b1 b2 b3 b4 b5
      obtain ⟨r, r1, r2, r3⟩ := ihd (i + 1) out' row' (by omega) (by omega) b1 b2 b3 b4 b5
      have hrl := rowOf_small hc.g v
      have e3 : wrap64 ((i : Int) + 1) = ((i + 1 : Nat) : Int) := wrap_succ (by omega)
      exact ⟨r, r1, r2, by rw [e3]; exact r3⟩
    by_cases hneg : rd out (head (net V ls) (rd (rowOf (net V ls) v) (i : Int))) < 0
    · by_cases hroom : room (rd caps) (rd f) (rd (rowOf (net V ls) v) (i : Int)) > 0
      · have hE : Res (net V ls) (rd caps) (rd f) (rd row 0) (head (net V ls) (rd (rowOf (net V ls) v) (i : Int))) := ⟨_, ha, by rw [hv]; exact ht, rfl, hroom⟩
        have hB2 := hB.label hr hEv hh.1 (by omega) hneg hE
        rw [hv] at hB2
        have htop := hB.top (by intro e; rw [e] at hr; simp at hr)
        have hun := cnt_drop (V := V.toNat) (out := out) (w := head (net V ls) (rd (rowOf (net V ls) v) (i : Int))) (x := rd out v + 1) hh.1 (by omega) hol hneg (by omega)
        have hset : ∀ u : Int, 0 ≤ u → rd (out.set (head (net V ls) (rd (rowOf (net V ls) v) (i : Int))).toNat (rd out v + 1)) u = if u = head (net V ls) (rd (rowOf (net V ls) v) (i : Int)) then rd out v + 1 else rd out u := fun u u0 => rd_set hh.1 (by omega) u0
        have hvn : v ≠ head (net V ls) (rd (rowOf (net V ls) v) (i : Int)) := fun e => by rw [← e] at hneg; omega
        obtain ⟨r, r1, r2, r3⟩ := next _ _ hB2 (by simp) (by rw [rd_left (by omega) (by omega)]; exact hv) (by unfold meas at hM ⊢; simp only [List.length_append, List.length_cons, List.length_nil]; omega) (fun j j0 j1 jr => by
          have hjm := rowOf_mem.1 (rd_mem (xs := rowOf (net V ls) v) (i := j) j0 (by omega))
          have hjh := head_vert hc.g hjm.1
          rw [hset _ hjh.1, hset v hvv.1.1, if_neg hvn]
          by_cases e : head (net V ls) (rd (rowOf (net V ls) v) j) = head (net V ls) (rd (rowOf (net V ls) v) (i : Int))
          · rw [if_pos e]; omega
          · rw [if_neg e]
            by_cases e2 : j = (i : Int)
            · rw [e2] at e; exact absurd rfl e
            · exact hp j j0 (by omega) jr)
        refine ⟨r, r1, r2, Ev.step (fun k => by rw [level_Levels.l1]) ?_⟩
        refine Ev.ite_pos (by omega) ?_
        refine Ev.ite_pos (by omega) ?_
        refine Ev.ite_pos (by omega) ?_
        refine Ev.ite_pos (by omega) ?_
        refine Ev.ite_pos (by omega) ?_
        rw [eh]
        refine Ev.ite_pos hh.1 ?_
        refine Ev.ite_pos (by omega) ?_
        refine Ev.ite_pos hneg ?_
        refine Ev.call (left_ok hc hw ha2.1 ha2.2) ?_
        refine Ev.ite_pos hroom ?_
        refine Ev.ite_pos hvv.1.1 ?_
        refine Ev.ite_pos (by omega) ?_
        have hlow := hB.low v hvv.1.1 hvv.1.2
        have hlt := bfs_lt hB v hvv.1.1 hvv.1.2
        refine Ev.ite_pos ?_ ?_
        · have := unl_nonneg V.toNat out
          unfold meas at hM
          omega
        · have e4 : wrap64 (rd out v + 1) = rd out v + 1 := wrap_id (by omega) (by omega)
          exact Ev.congr (fun k => by rw [e4]) r3
      · obtain ⟨r, r1, r2, r3⟩ := next out row hB hr hv hM (fun j j0 j1 jr => by
          by_cases e2 : j = (i : Int)
          · rw [e2] at jr; omega
          · exact hp j j0 (by omega) jr)
        refine ⟨r, r1, r2, Ev.step (fun k => by rw [level_Levels.l1]) ?_⟩
        refine Ev.ite_pos (by omega) ?_
        refine Ev.ite_pos (by omega) ?_
        refine Ev.ite_pos (by omega) ?_
        refine Ev.ite_pos (by omega) ?_
        refine Ev.ite_pos (by omega) ?_
        rw [eh]
        refine Ev.ite_pos hh.1 ?_
        refine Ev.ite_pos (by omega) ?_
        refine Ev.ite_pos hneg ?_
        refine Ev.call (left_ok hc hw ha2.1 ha2.2) ?_
        exact Ev.ite_neg hroom r3
    · obtain ⟨r, r1, r2, r3⟩ := next out row hB hr hv hM (fun j j0 j1 jr => by
        by_cases e2 : j = (i : Int)
        · rw [e2]
          have htop := hB.top (by intro e; rw [e] at hr; simp at hr) _ hh.1 (by omega)
          rw [hv] at htop
          omega
        · exact hp j j0 (by omega) jr)
      refine ⟨r, r1, r2, Ev.step (fun k => by rw [level_Levels.l1]) ?_⟩
      refine Ev.ite_pos (by omega) ?_
      refine Ev.ite_pos (by omega) ?_
      refine Ev.ite_pos (by omega) ?_
      refine Ev.ite_pos (by omega) ?_
      refine Ev.ite_pos (by omega) ?_
      rw [eh]
      refine Ev.ite_pos hh.1 ?_
      refine Ev.ite_pos (by omega) ?_
      exact Ev.ite_neg hneg r3

theorem bfs_outer (hc : CapsOk V ls caps) (hw : Win caps f) (n : Nat) : ∀ (out row : List Int), Bfs V.toNat (Res (net V ls) (rd caps) (rd f)) s out row → meas V.toNat out row ≤ (n : Int) → n ≤ 1000 →
    ∃ r : List Int, r.length = V.toNat ∧ Lev V.toNat (Res (net V ls) (rd caps) (rd f)) s (rd r) ∧ Ev (fun k => level_Levels.l0 k caps f out row (starts (net V ls)) (order (net V ls)) (heads (net V ls))) (r, 0) := by
  have hv8 := hc.g.v8
  have hv2 := hc.g.v2
  have hV := net_V (V := V) (ls := ls) (by omega)
  induction n with
  | zero =>
    intro out row hB hM _
    have h1 := unl_nonneg V.toNat out
    have hr : row = [] := by
      have : row.length = 0 := by unfold meas at hM; omega
      exact List.length_eq_zero_iff.1 this
    subst hr
    refine ⟨out, hB.len, hB.lev, Ev.step (fun k => by rw [level_Levels.l0]) ?_⟩
    exact Ev.ite_neg (by simp) (Ev.now _)
  | succ n ih =>
    intro out row hB hM hn
    by_cases hr : row.length = 0
    · have hr2 : row = [] := List.length_eq_zero_iff.1 hr
      subst hr2
      refine ⟨out, hB.len, hB.lev, Ev.step (fun k => by rw [level_Levels.l0]) ?_⟩
      exact Ev.ite_neg (by simp) (Ev.now _)
    · have hv := hB.rowv (rd row 0) (rd_mem (by omega) (by omega))
      obtain ⟨o1, o2, o3, o4, o5⟩ := order_row (net V ls) (v := rd row 0) hv.1.1 (by omega)
      have hsl := starts_len (net V ls)
      obtain ⟨r, r1, r2, r3⟩ := bfs_inner hc hw (meas V.toNat out row) (by omega) (s := s) (fun out' row' b1 b2 => ih out' row' b1 (by omega) (by omega)) (rd row 0) _ 0 out row (by omega) rfl hB (by omega) rfl (Int.le_refl _) (fun j j0 j1 => by omega)
      refine ⟨r, r1, r2, Ev.step (fun k => by rw [level_Levels.l0]) ?_⟩
      have e1 : wrap64 (rd row 0 + 1) = rd row 0 + 1 := wrap_id (by omega) (by omega)
      rw [e1, rd_starts _ hv.1.1 (by omega), rd_starts _ (by omega) (by omega)]
      refine Ev.ite_pos (by omega) ?_
      refine Ev.ite_pos (by omega) ?_
      refine Ev.ite_pos hv.1.1 ?_
      refine Ev.ite_pos (by omega) ?_
      refine Ev.ite_pos (by omega) ?_
      refine Ev.ite_pos (by omega) ?_
      refine Ev.ite_pos o3 ?_
      refine Ev.ite_pos o1 ?_
      refine Ev.ite_pos o2 ?_
      rw [o4]
      exact r3

theorem bfs_start (E : Int → Int → Prop) (hs : 0 ≤ s ∧ s < V) (hV : V ≤ 8) : Bfs V.toNat E s ((List.replicate V.toNat (-1 : Int)).set s.toNat 0) [s] := by
  have hrep : ∀ v : Int, 0 ≤ v → v < (V.toNat : Int) → rd (List.replicate V.toNat (-1 : Int)) v = -1 := by
    intro v v0 v1
    unfold rd
    rw [List.getD_eq_getElem?_getD, List.getElem?_replicate, if_pos (by omega)]
    rfl
  have hrw : ∀ v : Int, 0 ≤ v → v < (V.toNat : Int) → rd ((List.replicate V.toNat (-1 : Int)).set s.toNat 0) v = if v = s then 0 else -1 := by
    intro v v0 v1
    rw [rd_set hs.1 (by rw [List.length_replicate]; omega) v0]
    split
    · rfl
    · exact hrep v v0 v1
  have hss : rd ((List.replicate V.toNat (-1 : Int)).set s.toNat 0) s = 0 := by rw [hrw s hs.1 (by omega), if_pos rfl]
  refine ⟨by simp, hss, ?_, ?_, ?_, ?_, ?_, ?_, ?_, ?_⟩
  · intro v v0 v1
    rw [hrw v v0 v1]; split <;> omega
  · intro v v0 v1 h
    rw [hrw v v0 v1] at h; split at h <;> omega
  · intro v v0 v1 h
    rw [hrw v v0 v1] at h
    by_cases e : v = s
    · exact e
    · rw [if_neg e] at h; omega
  · intro x hx
    rw [List.mem_singleton.1 hx]
    exact ⟨by omega, by rw [hss]; exact Int.le_refl _⟩
  · intro x hx
    rw [List.mem_singleton.1 hx]
    exact Int.le_refl _
  · intro i j i0 ij jl
    have : i = 0 ∧ j = 0 := by simp at jl; omega
    rw [this.1, this.2]
    exact Int.le_refl _
  · intro _ v v0 v1
    show _ ≤ rd _ s + 1
    rw [hrw v v0 v1, hss]; split <;> omega
  · intro v v0 v1 h hn
    rw [hrw v v0 v1] at h
    by_cases e : v = s
    · exact absurd (List.mem_singleton.2 e) hn
    · rw [if_neg e] at h; omega
end

theorem Repeat_one (x : Int) {n : Int} (h1 : 1 ≤ n) (h8 : n ≤ 8) : slices_Repeat_int_int.f [x] n = some (List.replicate n.toNat x) := by
  unfold slices_Repeat_int_int.f
  rw [if_pos ⟨rfl, h1, h8⟩]
  rfl

/-- what level.Levels tells -/
theorem level_Levels_ev (V : Int) (ls : List S42) (caps f : List Int) (s : Int) :
    ∃ r : List Int, Ev (fun k => level_Levels.f k V ls caps f s) (if CapsOk V ls caps ∧ Win caps f ∧ 0 ≤ s ∧ s < V then (r, 0) else ([], 1000)) ∧
      (CapsOk V ls caps ∧ Win caps f ∧ 0 ≤ s ∧ s < V → r.length = V.toNat ∧ Lev V.toNat (Res (net V ls) (rd caps) (rd f)) s (rd r)) := by
  by_cases h : CapsOk V ls caps ∧ Win caps f ∧ 0 ≤ s ∧ s < V
  · have hv8 := h.1.g.v8
    have hv2 := h.1.g.v2
    have hu := unl_le V.toNat ((List.replicate V.toNat (-1 : Int)).set s.toNat 0)
    obtain ⟨r, r1, r2, r3⟩ := bfs_outer h.1 h.2.1 100 _ _ (bfs_start (V := V) (Res (net V ls) (rd caps) (rd f)) h.2.2 hv8) (by unfold meas; simp only [List.length_cons, List.length_nil]; omega) (by omega)
    refine ⟨r, ?_, fun _ => ⟨r1, r2⟩⟩
    rw [if_pos h]
    unfold level_Levels.f
    have B1 := arcs_Build_ev V ls
    rw [if_pos h.1.g] at B1
    refine Ev.bind B1 ?_
    refine Ev.ite_pos rfl ?_
    refine Ev.bind (stream_Lies_ev V ls caps f) ?_
    refine Ev.ite_pos (decide_eq_true ⟨h.1, h.2.1⟩) ?_
    refine Ev.call (graph_Has_eq _ _ _) ?_
    rw [decide_eq_true h.2.2]
    refine Ev.step (fun k => by rw [level_Levels.j0]) ?_
    refine Ev.ite_neg (by simp) ?_
    refine Ev.call (Repeat_one (-1) (by omega) hv8) ?_
    refine Ev.ite_pos h.2.2.1 ?_
    refine Ev.ite_pos (by rw [List.length_replicate]; omega) ?_
    exact r3
  · refine ⟨[], ?_, fun g => absurd g h⟩
    rw [if_neg h]
    have no : ∀ a b c : List Int, Ev (fun k => level_Levels.j0 k caps f s true V ls a b c) (([] : List Int), (1000 : Int)) := by
      intro a b c
      refine Ev.step (fun k => by rw [level_Levels.j0]) ?_
      exact Ev.ite_pos rfl (Ev.now _)
    unfold level_Levels.f
    refine Ev.bind (arcs_Build_ev V ls) ?_
    by_cases hg : GOk V ls
    · rw [if_pos hg]
      refine Ev.ite_pos rfl ?_
      refine Ev.bind (stream_Lies_ev V ls caps f) ?_
      by_cases hl : CapsOk V ls caps ∧ Win caps f
      · refine Ev.ite_pos (decide_eq_true hl) ?_
        refine Ev.call (graph_Has_eq _ _ _) ?_
        rw [decide_eq_false (fun g => h ⟨hl.1, hl.2, g⟩)]
        exact no _ _ _
      · refine Ev.ite_neg (by simp only [decide_eq_true_eq]; exact hl) ?_
        exact no _ _ _
    · rw [if_neg hg]
      refine Ev.ite_neg (by decide) ?_
      exact no _ _ _

theorem CopyIntsK_eq {xs : List Int} (h : xs.length < 17592186044416) : tollbarlaw0_CopyInts.f xs = some xs := by
  unfold tollbarlaw0_CopyInts.f
  simp only [Option.bind_some]
  rw [if_pos (by simpa using h)]
  rfl

theorem LendInts_eq {xs : List Int} (h : xs.length + 2 < 17592186044416) : tollbarlaw0_LendInts.f xs = some xs := by
  unfold tollbarlaw0_LendInts.f
  rw [CopyIntsK_eq (by omega)]
  simp only [Option.bind_some]
  rw [if_pos h]

theorem KeptInts_ev (xs : List Int) (h : xs.length + 2 < 17592186044416) : Ev (fun k => tollbarlaw0_KeptInts.f k xs xs) true := by
  unfold tollbarlaw0_KeptInts.f
  refine Ev.ite_pos h (Ev.ite_pos rfl ?_)
  refine Ev.bind (SameInts_self xs (by omega)) ?_
  exact Ev.ite_pos rfl (Ev.now _)

/-- an arc ahead of a leads to v from the level at_ -/
def lvP (N : Net) (c f M : Int → Int) (at_ a v : Int) : Prop := M v = at_ + 1 ∧ ∃ k : Int, 0 ≤ k ∧ k < a ∧ N.arc k ∧ 0 < room c f k ∧ M (tail N k) = at_ ∧ head N k = v

noncomputable def lvF (N : Net) (c f M : Int → Int) (at_ a v : Int) : Int := if 0 ≤ M v ∧ M v ≤ at_ then M v else if lvP N c f M at_ a v then at_ + 1 else -1

noncomputable def lvT (N : Net) (c f M : Int → Int) (at_ a : Int) : List Int := tab N.V (lvF N c f M at_ a)

theorem lvT_len (N : Net) (c f M : Int → Int) (at_ a : Int) : (lvT N c f M at_ a).length = N.V := tab_len _ _

theorem lvT_rd {N : Net} {c f M : Int → Int} {at_ a v : Int} (h0 : 0 ≤ v) (h1 : v < (N.V : Int)) : rd (lvT N c f M at_ a) v = lvF N c f M at_ a v := rd_tab h0 h1

theorem lvF_at {N : Net} {c f M : Int → Int} {at_ a v : Int} (h : 0 ≤ at_) : lvF N c f M at_ a v = at_ ↔ M v = at_ := by
  unfold lvF
  constructor
  · intro e
    split at e
    · exact e
    · split at e <;> omega
  · intro e
    rw [if_pos (by omega)]; exact e

theorem lvF_same {N : Net} {c f M : Int → Int} {at_ i : Int} (H : ¬ (M (tail N i) = at_ ∧ 0 < room c f i ∧ lvF N c f M at_ i (head N i) < 0)) (v : Int) : lvF N c f M at_ (i + 1) v = lvF N c f M at_ i v := by
  unfold lvF
  by_cases q : 0 ≤ M v ∧ M v ≤ at_
  · rw [if_pos q, if_pos q]
  · rw [if_neg q, if_neg q]
    have e : lvP N c f M at_ (i + 1) v ↔ lvP N c f M at_ i v := by
      constructor
      · rintro ⟨e, k, k0, k1, a, r, t, h⟩
        by_cases ek : k = i
        · subst ek
          refine Classical.byContradiction (fun hn => H ⟨t, r, ?_⟩)
          rw [h]
          unfold lvF
          rw [if_neg q, if_neg hn]; omega
        · exact ⟨e, k, k0, by omega, a, r, t, h⟩
      · rintro ⟨e, k, k0, k1, a, r, t, h⟩
        exact ⟨e, k, k0, by omega, a, r, t, h⟩
    by_cases p : lvP N c f M at_ i v
    · rw [if_pos p, if_pos (e.2 p)]
    · rw [if_neg p, if_neg (fun g => p (e.1 g))]

theorem lvT_same {N : Net} {c f M : Int → Int} {at_ i : Int} (H : ¬ (M (tail N i) = at_ ∧ 0 < room c f i ∧ lvF N c f M at_ i (head N i) < 0)) : lvT N c f M at_ i = lvT N c f M at_ (i + 1) :=
  rd_ext (by rw [lvT_len, lvT_len]) (fun v a b => by rw [lvT_len] at b; rw [lvT_rd a b, lvT_rd a b, lvF_same H])

theorem lvT_set {N : Net} {c f M : Int → Int} {at_ i : Int} (i0 : 0 ≤ i) (ha : N.arc i) (ht : M (tail N i) = at_) (hr : 0 < room c f i) (hh : M (head N i) = at_ + 1) (h0 : 0 ≤ head N i) (h1 : head N i < (N.V : Int)) :
    (lvT N c f M at_ i).set (head N i).toNat (at_ + 1) = lvT N c f M at_ (i + 1) := by
  refine rd_ext (by rw [List.length_set, lvT_len, lvT_len]) (fun v a b => ?_)
  rw [List.length_set, lvT_len] at b
  rw [rd_set h0 (by rw [lvT_len]; exact h1) a, lvT_rd a b, lvT_rd a b]
  by_cases e : v = head N i
  · rw [if_pos e]
    unfold lvF
    rw [if_neg (by rw [e]; omega), if_pos ⟨by rw [e]; exact hh, i, i0, by omega, ha, hr, ht, e.symm⟩]
  · rw [if_neg e]
    unfold lvF
    by_cases q : 0 ≤ M v ∧ M v ≤ at_
    · rw [if_pos q, if_pos q]
    · rw [if_neg q, if_neg q]
      have e2 : lvP N c f M at_ (i + 1) v ↔ lvP N c f M at_ i v := by
        constructor
        · rintro ⟨e3, k, k0, k1, a3, r, t, h⟩
          exact ⟨e3, k, k0, by
            have : k ≠ i := fun ek => e (by rw [← h, ek])
            omega, a3, r, t, h⟩
        · rintro ⟨e3, k, k0, k1, a3, r, t, h⟩
          exact ⟨e3, k, k0, by omega, a3, r, t, h⟩
      by_cases p : lvP N c f M at_ i v
      · rw [if_pos p, if_pos (e2.2 p)]
      · rw [if_neg p, if_neg (fun g => p (e2.1 g))]

theorem lvT_next {N : Net} {c f M : Int → Int} {s at_ : Int} (h : Lev N.V (Res N c f) s M) (h0 : 0 ≤ at_) : lvT N c f M at_ (2 * (N.m : Int)) = lvT N c f M (at_ + 1) 0 := by
  refine rd_ext (by rw [lvT_len, lvT_len]) (fun v a b => ?_)
  rw [lvT_len] at b
  rw [lvT_rd a b, lvT_rd a b]
  unfold lvF
  have no : ¬ lvP N c f M (at_ + 1) 0 v := by rintro ⟨_, k, k0, k1, _⟩; omega
  rw [if_neg no]
  by_cases q : 0 ≤ M v ∧ M v ≤ at_
  · rw [if_pos q, if_pos (by omega)]
  · rw [if_neg q]
    by_cases e : M v = at_ + 1
    · rw [if_pos (show 0 ≤ M v ∧ M v ≤ at_ + 1 by omega)]
      obtain ⟨u, u0, u1, ⟨k, ha, ht, hh, hr⟩, hu⟩ := h.back v a b (by omega)
      rw [if_pos ⟨e, k, ha.1, ha.2, ha, hr, by rw [ht]; omega, hh⟩]
      exact e.symm
    · rw [if_neg (show ¬ (0 ≤ M v ∧ M v ≤ at_ + 1) by omega), if_neg (fun g => e g.1)]

theorem lvT_last {N : Net} {c f : Int → Int} {s : Int} {r : List Int} (hr : r.length = N.V) (h : Lev N.V (Res N c f) s (rd r)) : lvT N c f (rd r) (N.V : Int) 0 = r := by
  refine rd_ext (by rw [lvT_len, hr]) (fun v a b => ?_)
  rw [lvT_len] at b
  rw [lvT_rd a b]
  unfold lvF
  have no : ¬ lvP N c f (rd r) (N.V : Int) 0 v := by rintro ⟨_, k, k0, k1, _⟩; omega
  have h1 := h.lt v a b
  have h2 := h.low v a b
  rw [if_neg no]
  by_cases q : 0 ≤ rd r v ∧ rd r v ≤ (N.V : Int)
  · rw [if_pos q]
  · rw [if_neg q]; omega

theorem lvT_first {N : Net} {c f M : Int → Int} {s : Int} (h : Lev N.V (Res N c f) s M) (s0 : 0 ≤ s) (s1 : s < (N.V : Int)) : (tab N.V (fun _ => (-1 : Int))).set s.toNat 0 = lvT N c f M 0 0 := by
  refine rd_ext (by rw [List.length_set, tab_len, lvT_len]) (fun v a b => ?_)
  rw [List.length_set, tab_len] at b
  rw [rd_set s0 (by rw [tab_len]; exact s1) a, lvT_rd a b, rd_tab a b]
  unfold lvF
  have no : ¬ lvP N c f M 0 0 v := by rintro ⟨_, k, k0, k1, _⟩; omega
  rw [if_neg no]
  by_cases e : v = s
  · rw [if_pos e, e, h.src]; rfl
  · rw [if_neg e, if_neg (fun q => e (h.zero v a b (by omega)))]

section
variable {V : Int} {ls : List S42} {caps f : List Int} {s : Int}

theorem reflev_arcs (hc : CapsOk V ls caps) (hw : Win caps f) {r q : List Int} (hr : r.length = V.toNat) (hL : Lev V.toNat (Res (net V ls) (rd caps) (rd f)) s (rd r)) {a : Nat} (ha : (a : Int) < V)
    (next : Ev (fun k => tollbarref4_Levels.l1 k caps f (lvT (net V ls) (rd caps) (rd f) (rd r) ((a : Int) + 1) 0) ((a : Int) + 1) V ls) (q, 0)) (d : Nat) :
    ∀ (i : Nat), i ≤ 2 * ls.length → 2 * ls.length - i = d →
      Ev (fun k => tollbarref4_Levels.l2 k caps f (lvT (net V ls) (rd caps) (rd f) (rd r) (a : Int) (i : Int)) (a : Int) (i : Int) V ls) (q, 0) := by
  have hm := hc.g.m16
  have hv8 := hc.g.v8
  have hv2 := hc.g.v2
  have hfl : f.length = ls.length := by rw [hw.len, hc.len]
  have hNV : ((net V ls).V : Int) = V := net_V (by omega)
  induction d with
  | zero =>
    intro i hi he
    obtain rfl : i = 2 * ls.length := by omega
    refine Ev.step (fun k => by rw [tollbarref4_Levels.l2]) ?_
    rw [twice_ (ls := ls) (by omega)]
    refine Ev.ite_neg (by omega) ?_
    have e := lvT_next (N := net V ls) (at_ := (a : Int)) hL (by omega)
    rw [net_m] at e
    rw [show ((2 * ls.length : Nat) : Int) = 2 * (ls.length : Int) by omega, e]
    exact Ev.congr (fun k => by rw [wrap_id (x := (a : Int) + 1) (by omega) (by omega)]) next
  | succ d ih =>
    intro i hi he
    have hk0 : (0 : Int) ≤ (i : Int) := by omega
    have hk1 : (i : Int) < 2 * (ls.length : Int) := by omega
    have harc : (net V ls).arc (i : Int) := by unfold Net.arc; rw [net_m]; omega
    have t0 := tail_vert hc.g harc
    have h0 := head_vert hc.g harc
    have X := ih (i + 1) (by omega) (by omega)
    have T := ref_Tail_eq V ls (by omega) hk0 hk1
    have Hd := ref_Head_eq V ls (by omega) hk0 hk1
    have hlen : ((lvT (net V ls) (rd caps) (rd f) (rd r) (a : Int) (i : Int)).length : Int) = V := by rw [lvT_len]; exact hNV
    have cast : ((i + 1 : Nat) : Int) = (i : Int) + 1 := by omega
    have skip : ¬ (rd r (tail (net V ls) (i : Int)) = (a : Int) ∧ 0 < room (rd caps) (rd f) (i : Int) ∧ lvF (net V ls) (rd caps) (rd f) (rd r) (a : Int) (i : Int) (head (net V ls) (i : Int)) < 0) →
        Ev (fun k => tollbarref4_Levels.l2 k caps f (lvT (net V ls) (rd caps) (rd f) (rd r) (a : Int) (i : Int)) (a : Int) (wrap64 ((i : Int) + 1)) V ls) (q, 0) := by
      intro H
      rw [lvT_same H, ← cast]
      exact Ev.congr (fun k => by rw [cast, wrap_id (x := (i : Int) + 1) (by omega) (by omega)]) X
    refine Ev.step (fun k => by rw [tollbarref4_Levels.l2]) ?_
    rw [twice_ (ls := ls) (by omega)]
    refine Ev.ite_pos hk1 ?_
    refine Ev.call T ?_
    refine Ev.ite_pos t0.1 (Ev.ite_pos (by omega) ?_)
    rw [lvT_rd t0.1 (by omega)]
    by_cases y : rd r (tail (net V ls) (i : Int)) = (a : Int)
    · refine Ev.ite_pos ((lvF_at (by omega)).2 y) ?_
      refine Ev.call (ref_room_ok hc hw hk0 hk1) ?_
      by_cases z : room (rd caps) (rd f) (i : Int) > 0
      · refine Ev.ite_pos z ?_
        refine Ev.call Hd ?_
        refine Ev.ite_pos h0.1 (Ev.ite_pos (by omega) ?_)
        rw [lvT_rd h0.1 (by omega)]
        by_cases x : lvF (net V ls) (rd caps) (rd f) (rd r) (a : Int) (i : Int) (head (net V ls) (i : Int)) < 0
        · have hon := hL.on (tail (net V ls) (i : Int)) (head (net V ls) (i : Int)) t0.1 (by omega) h0.1 (by omega) ⟨(i : Int), harc, rfl, rfl, z⟩ (by omega)
          have hM : rd r (head (net V ls) (i : Int)) = (a : Int) + 1 := by
            refine Classical.byContradiction (fun hn => ?_)
            unfold lvF at x
            rw [if_pos (by omega)] at x
            omega
          refine Ev.ite_pos x ?_
          refine Ev.call Hd ?_
          refine Ev.ite_pos h0.1 (Ev.ite_pos (by omega) ?_)
          rw [wrap_id (x := (a : Int) + 1) (by omega) (by omega), lvT_set hk0 harc y z hM h0.1 (by omega), ← cast]
          exact Ev.congr (fun k => by rw [cast, wrap_id (x := (i : Int) + 1) (by omega) (by omega)]) X
        · refine Ev.ite_neg x ?_
          exact skip (fun g => x g.2.2)
      · refine Ev.ite_neg z ?_
        exact skip (fun g => z g.2.1)
    · refine Ev.ite_neg (fun g => y ((lvF_at (by omega)).1 g)) ?_
      exact skip (fun g => y g.1)

theorem reflev_rounds (hc : CapsOk V ls caps) (hw : Win caps f) {r : List Int} (hr : r.length = V.toNat) (hL : Lev V.toNat (Res (net V ls) (rd caps) (rd f)) s (rd r)) (d : Nat) :
    ∀ (a : Nat), (a : Int) ≤ V → V.toNat - a = d → Ev (fun k => tollbarref4_Levels.l1 k caps f (lvT (net V ls) (rd caps) (rd f) (rd r) (a : Int) 0) (a : Int) V ls) (r, 0) := by
  have hv8 := hc.g.v8
  have hv2 := hc.g.v2
  have hNV : ((net V ls).V : Int) = V := net_V (by omega)
  induction d with
  | zero =>
    intro a ha hd
    have ea : (a : Int) = V := by omega
    refine Ev.step (fun k => by rw [tollbarref4_Levels.l1]) ?_
    refine Ev.ite_neg (by omega) ?_
    have e := lvT_last (N := net V ls) hr hL
    rw [hNV] at e
    rw [ea, e]
    exact Ev.now _
  | succ d ih =>
    intro a ha hd
    have X := ih (a + 1) (by omega) (by omega)
    refine Ev.step (fun k => by rw [tollbarref4_Levels.l1]) ?_
    refine Ev.ite_pos (by omega) ?_
    refine reflev_arcs hc hw hr hL (by omega) ?_ (2 * ls.length) 0 (by omega) (by omega)
    rw [show (a : Int) + 1 = ((a + 1 : Nat) : Int) by omega]
    exact X

theorem reflev_fill (hc : CapsOk V ls caps) (hw : Win caps f) (hs : 0 ≤ s ∧ s < V) {r : List Int} (hr : r.length = V.toNat) (hL : Lev V.toNat (Res (net V ls) (rd caps) (rd f)) s (rd r)) (d : Nat) :
    ∀ (i : Nat), (i : Int) ≤ V → V.toNat - i = d → Ev (fun k => tollbarref4_Levels.l0 k caps f s (tab V.toNat (fun v => if v < (i : Int) then -1 else 0)) (i : Int) V ls) (r, 0) := by
  have hv8 := hc.g.v8
  have hv2 := hc.g.v2
  have hNV : ((net V ls).V : Int) = V := net_V (by omega)
  induction d with
  | zero =>
    intro i hi hd
    have ei : (i : Int) = V := by omega
    refine Ev.step (fun k => by rw [tollbarref4_Levels.l0]) ?_
    refine Ev.ite_neg (by omega) ?_
    refine Ev.ite_pos hs.1 (Ev.ite_pos (by rw [tab_len]; omega) ?_)
    have e : tab V.toNat (fun v => if v < (i : Int) then (-1 : Int) else 0) = tab V.toNat (fun _ => (-1 : Int)) := eq_tab (tab_len _ _) (fun v a b => by rw [rd_tab a b, if_pos (by omega)])
    have e2 : (tab V.toNat (fun _ => (-1 : Int))).set s.toNat 0 = lvT (net V ls) (rd caps) (rd f) (rd r) 0 0 := lvT_first (N := net V ls) hL hs.1 (by omega)
    rw [e, e2]
    exact reflev_rounds hc hw hr hL V.toNat 0 (by omega) (by omega)
  | succ d ih =>
    intro i hi hd
    have X := ih (i + 1) (by omega) (by omega)
    refine Ev.step (fun k => by rw [tollbarref4_Levels.l0]) ?_
    refine Ev.ite_pos (by omega) (Ev.ite_pos (by omega) (Ev.ite_pos (by rw [tab_len]; omega) ?_))
    have e : (tab V.toNat (fun v => if v < (i : Int) then (-1 : Int) else 0)).set ((i : Int) : Int).toNat (-1) = tab V.toNat (fun v => if v < ((i + 1 : Nat) : Int) then (-1 : Int) else 0) := by
      refine eq_tab (by rw [List.length_set, tab_len]) (fun v a b => ?_)
      rw [rd_set (by omega) (by rw [tab_len]; omega) a, rd_tab a b]
      by_cases ev : v = (i : Int)
      · rw [if_pos ev, if_pos (by omega)]
      · rw [if_neg ev]
        by_cases lt : v < (i : Int)
        · rw [if_pos lt, if_pos (by omega)]
        · rw [if_neg lt, if_neg (by omega)]
    rw [e]
    exact Ev.congr (fun k => by rw [wrap_succ (by omega)]) X
end

theorem ref_Levels_ev (V : Int) (ls : List S42) (caps f : List Int) (s : Int) (hf : f.length ≤ 17592186044416) {r : List Int}
    (h : CapsOk V ls caps ∧ Win caps f ∧ 0 ≤ s ∧ s < V → r.length = V.toNat ∧ Lev V.toNat (Res (net V ls) (rd caps) (rd f)) s (rd r)) :
    Ev (fun k => tollbarref4_Levels.f k V ls caps f s) (if CapsOk V ls caps ∧ Win caps f ∧ 0 ≤ s ∧ s < V then (r, 0) else ([], 1000)) := by
  have no : ¬ (CapsOk V ls caps ∧ Win caps f ∧ 0 ≤ s ∧ s < V) → Ev (fun k => tollbarref4_Levels.j0 k caps f s true V ls) (if CapsOk V ls caps ∧ Win caps f ∧ 0 ≤ s ∧ s < V then (r, 0) else ([], 1000)) := by
    intro g
    rw [if_neg g]
    refine Ev.step (fun k => by rw [tollbarref4_Levels.j0]) ?_
    exact Ev.ite_pos rfl (Ev.now _)
  unfold tollbarref4_Levels.f
  refine Ev.bind (ref_CapsMay_ev V ls caps) ?_
  by_cases hc : CapsOk V ls caps
  · refine Ev.ite_pos (decide_eq_true hc) ?_
    refine Ev.bind (ref_Within_ev caps f hf) ?_
    by_cases hw : Win caps f
    · refine Ev.ite_pos (decide_eq_true hw) ?_
      refine Ev.call (ref_Vertex_eq _ _ _) ?_
      by_cases hs : 0 ≤ s ∧ s < V
      · obtain ⟨h1, h2⟩ := h ⟨hc, hw, hs⟩
        have hv8 := hc.g.v8
        have hv2 := hc.g.v2
        rw [decide_eq_true hs, if_pos ⟨hc, hw, hs⟩]
        refine Ev.step (fun k => by rw [tollbarref4_Levels.j0]) ?_
        refine Ev.ite_neg (by decide) (Ev.ite_pos (by omega) (Ev.ite_pos (by omega) ?_))
        have e : List.replicate V.toNat (0 : Int) = tab V.toNat (fun v => if v < ((0 : Nat) : Int) then (-1 : Int) else 0) := eq_tab (by simp) (fun v a b => by rw [rd_rep a b, if_neg (by omega)])
        rw [e]
        exact reflev_fill hc hw hs h1 h2 V.toNat 0 (by omega) (by omega)
      · rw [decide_eq_false hs]
        exact no (fun g => hs g.2.2)
    · refine Ev.ite_neg (by simp only [decide_eq_true_eq]; exact hw) ?_
      exact no (fun g => hw g.2.1)
  · refine Ev.ite_neg (by simp only [decide_eq_true_eq]; exact hc) ?_
    exact no (fun g => hc g.1)

theorem awake13 : Ev (fun k => tollbarlaw13_awake.f k) true := Ev.of tollbarlaw13_awake.mono (k := 100) (by decide +kernel)

theorem Num_eq13 (x : Int) : tollbarlaw0_Num.f x = some x := rfl

theorem index_loop (xs : List Int) (y : Int) (hx : xs.length ≤ 17592186044416) (d : Nat) : ∀ (i : Nat), i ≤ xs.length → xs.length - i = d → (∀ j : Int, 0 ≤ j → j < (i : Int) → rd xs j ≠ y) →
    ∃ t : Int, Ev (fun k => slices_Index_int_int.l0 k xs y (xs.length : Int) (i : Int)) t ∧ ((t = -1 ∧ y ∉ xs) ∨ (0 ≤ t ∧ t < (xs.length : Int) ∧ rd xs t = y)) := by
  induction d with
  | zero =>
    intro i hi hd hp
    obtain rfl : i = xs.length := by omega
    refine ⟨-1, ?_, .inl ⟨rfl, fun hy => ?_⟩⟩
    · refine Ev.step (fun k => by rw [slices_Index_int_int.l0]) ?_
      refine Ev.ite_neg (by omega) (Ev.now _)
    · obtain ⟨j, j0, j1, e⟩ := mem_rd hy
      exact hp j j0 j1 e
  | succ d ih =>
    intro i hi hd hp
    by_cases e : y = rd xs (i : Int)
    · refine ⟨(i : Int), ?_, .inr ⟨by omega, by omega, e.symm⟩⟩
      refine Ev.step (fun k => by rw [slices_Index_int_int.l0]) ?_
      exact Ev.ite_pos (by omega) (Ev.ite_pos (by omega) (Ev.ite_pos (by omega) (Ev.ite_pos e (Ev.now _))))
    · obtain ⟨t, X, h⟩ := ih (i + 1) (by omega) (by omega) (fun j a b => by
        by_cases ej : j = (i : Int)
        · rw [ej]; exact fun g => e g.symm
        · exact hp j a (by omega))
      refine ⟨t, ?_, h⟩
      refine Ev.step (fun k => by rw [slices_Index_int_int.l0]) ?_
      refine Ev.ite_pos (by omega) (Ev.ite_pos (by omega) (Ev.ite_pos (by omega) (Ev.ite_neg e ?_)))
      exact Ev.congr (fun k => by rw [wrap_succ (by omega)]) X

theorem Index_ev (xs : List Int) (y : Int) (hx : xs.length ≤ 17592186044416) : ∃ t : Int, Ev (fun k => slices_Index_int_int.f k xs y) t ∧ ((t = -1 ∧ y ∉ xs) ∨ (0 ≤ t ∧ t < (xs.length : Int) ∧ rd xs t = y)) :=
  index_loop xs y hx xs.length 0 (by omega) (by omega) (fun j a b => by omega)

theorem Contains_ev (xs : List Int) (y : Int) (hx : xs.length ≤ 17592186044416) : Ev (fun k => slices_Contains_int_int.f k xs y) (decide (y ∈ xs)) := by
  obtain ⟨t, X, h⟩ := Index_ev xs y hx
  unfold slices_Contains_int_int.f
  refine Ev.bind X ?_
  rcases h with ⟨h1, h2⟩ | ⟨h1, h2, h3⟩
  · have e2 : decide (y ∈ xs) = false := decide_eq_false h2
    rw [e2, h1]
    exact Ev.now _
  · have m : y ∈ xs := by rw [← h3]; exact rd_mem h1 h2
    have e1 : decide (t ≥ 0) = true := decide_eq_true h1
    have e2 : decide (y ∈ xs) = true := decide_eq_true m
    rw [e1, e2]
    exact Ev.now _

theorem among_loop (xs : List Int) (y : Int) (hx : xs.length ≤ 17592186044416) (d : Nat) : ∀ (i : Nat), i ≤ xs.length → xs.length - i = d → (∀ j : Int, 0 ≤ j → j < (i : Int) → rd xs j ≠ y) →
    Ev (fun k => tollbarref4_Among.l0 k xs y (i : Int)) (decide (y ∈ xs)) := by
  induction d with
  | zero =>
    intro i hi hd hp
    obtain rfl : i = xs.length := by omega
    refine Ev.step (fun k => by rw [tollbarref4_Among.l0]) ?_
    refine Ev.ite_neg (by omega) ?_
    rw [decide_eq_false (fun hy => by
      obtain ⟨j, j0, j1, e⟩ := mem_rd hy
      exact hp j j0 j1 e)]
    exact Ev.now _
  | succ d ih =>
    intro i hi hd hp
    refine Ev.step (fun k => by rw [tollbarref4_Among.l0]) ?_
    refine Ev.ite_pos (by omega) (Ev.ite_pos (by omega) ?_)
    by_cases e : rd xs (i : Int) = y
    · refine Ev.ite_pos e ?_
      rw [decide_eq_true (show y ∈ xs by rw [← e]; exact rd_mem (by omega) (by omega))]
      exact Ev.now _
    · refine Ev.ite_neg e ?_
      have X := ih (i + 1) (by omega) (by omega) (fun j a b => by
        by_cases ej : j = (i : Int)
        · rw [ej]; exact e
        · exact hp j a (by omega))
      exact Ev.congr (fun k => by rw [wrap_succ (by omega)]) X

theorem Among_ev (xs : List Int) (y : Int) (hx : xs.length ≤ 17592186044416) : Ev (fun k => tollbarref4_Among.f k xs y) (decide (y ∈ xs)) :=
  among_loop xs y hx xs.length 0 (by omega) (by omega) (fun j a b => by omega)

/-- the vertices that have a level -/
noncomputable def reachTo (r : List Int) (n : Nat) : List Int := (ints n).filter (fun v => decide (rd r v ≥ 0))

noncomputable def reachL (r : List Int) : List Int := reachTo r r.length

theorem reachTo_succ (r : List Int) (n : Nat) : reachTo r (n + 1) = if rd r (n : Int) ≥ 0 then reachTo r n ++ [(n : Int)] else reachTo r n := by
  unfold reachTo
  rw [ints_succ, List.filter_append]
  by_cases h : rd r (n : Int) ≥ 0
  · rw [if_pos h]; simp [h]
  · rw [if_neg h]; simp [h]

theorem reachTo_len (r : List Int) (n : Nat) : (reachTo r n).length ≤ n := by
  unfold reachTo
  refine Nat.le_trans (List.length_filter_le _ _) ?_
  rw [ints_len]; exact Nat.le_refl _

theorem reach_loop (r : List Int) (hr : r.length ≤ 4096) (d : Nat) : ∀ (i : Nat), i ≤ r.length → r.length - i = d →
    Ev (fun k => reach_Reach.l0 k (reachTo r i) r (r.length : Int) (i : Int)) (reachL r, 0) := by
  induction d with
  | zero =>
    intro i hi hd
    obtain rfl : i = r.length := by omega
    refine Ev.step (fun k => by rw [reach_Reach.l0]) ?_
    exact Ev.ite_neg (by omega) (Ev.now _)
  | succ d ih =>
    intro i hi hd
    have X := ih (i + 1) (by omega) (by omega)
    have hl := reachTo_len r i
    rw [reachTo_succ] at X
    refine Ev.step (fun k => by rw [reach_Reach.l0]) ?_
    refine Ev.ite_pos (by omega) (Ev.ite_pos (by omega) (Ev.ite_pos (by omega) ?_))
    by_cases c : rd r (i : Int) ≥ 0
    · rw [if_pos c] at X
      refine Ev.ite_pos c (Ev.ite_pos (by omega) ?_)
      exact Ev.congr (fun k => by rw [wrap_succ (by omega)]) X
    · rw [if_neg c] at X
      refine Ev.ite_neg c ?_
      exact Ev.congr (fun k => by rw [wrap_succ (by omega)]) X

theorem refreach_loop (r : List Int) (hr : r.length ≤ 4096) (d : Nat) : ∀ (i : Nat), i ≤ r.length → r.length - i = d →
    Ev (fun k => tollbarref4_Reach.l0 k r (reachTo r i) (i : Int)) (reachL r, 0) := by
  induction d with
  | zero =>
    intro i hi hd
    obtain rfl : i = r.length := by omega
    refine Ev.step (fun k => by rw [tollbarref4_Reach.l0]) ?_
    exact Ev.ite_neg (by omega) (Ev.now _)
  | succ d ih =>
    intro i hi hd
    have X := ih (i + 1) (by omega) (by omega)
    have hl := reachTo_len r i
    rw [reachTo_succ] at X
    refine Ev.step (fun k => by rw [tollbarref4_Reach.l0]) ?_
    refine Ev.ite_pos (by omega) (Ev.ite_pos (by omega) ?_)
    by_cases c : rd r (i : Int) ≥ 0
    · rw [if_pos c] at X
      refine Ev.ite_pos c (Ev.ite_pos (by omega) ?_)
      exact Ev.congr (fun k => by rw [wrap_succ (by omega)]) X
    · rw [if_neg c] at X
      refine Ev.ite_neg c ?_
      exact Ev.congr (fun k => by rw [wrap_succ (by omega)]) X

def RchOk (V : Int) (ls : List S42) (caps f : List Int) (s : Int) : Prop := CapsOk V ls caps ∧ Win caps f ∧ 0 ≤ s ∧ s < V

/-- what reach.Reach tells -/
theorem reach_Reach_ev (V : Int) (ls : List S42) (caps f : List Int) (s : Int) :
    ∃ r : List Int, Ev (fun k => reach_Reach.f k V ls caps f s) (if RchOk V ls caps f s then (reachL r, 0) else ([], 1300)) ∧
      (f.length ≤ 17592186044416 → Ev (fun k => tollbarref4_Reach.f k V ls caps f s) (if RchOk V ls caps f s then (reachL r, 0) else ([], 1300))) ∧
      (RchOk V ls caps f s → r.length = V.toNat ∧ Lev V.toNat (Res (net V ls) (rd caps) (rd f)) s (rd r)) := by
  obtain ⟨r, e, p⟩ := level_Levels_ev V ls caps f s
  refine ⟨r, ?_, fun hf => ?_, p⟩
  · unfold reach_Reach.f
    refine Ev.bind e ?_
    by_cases h : RchOk V ls caps f s
    · have hv8 := h.1.g.v8
      have p1 := (p h).1
      have h2 : CapsOk V ls caps ∧ Win caps f ∧ 0 ≤ s ∧ s < V := h
      rw [if_pos h2, if_pos h]
      refine Ev.ite_pos rfl ?_
      exact reach_loop r (by omega) r.length 0 (by omega) (by omega)
    · have h2 : ¬ (CapsOk V ls caps ∧ Win caps f ∧ 0 ≤ s ∧ s < V) := h
      rw [if_neg h2, if_neg h]
      exact Ev.ite_neg (by decide) (Ev.now _)
  · unfold tollbarref4_Reach.f
    refine Ev.bind (ref_Levels_ev V ls caps f s hf p) ?_
    by_cases h : RchOk V ls caps f s
    · have hv8 := h.1.g.v8
      have p1 := (p h).1
      have h2 : CapsOk V ls caps ∧ Win caps f ∧ 0 ≤ s ∧ s < V := h
      rw [if_pos h2, if_pos h]
      refine Ev.ite_pos rfl ?_
      exact refreach_loop r (by omega) r.length 0 (by omega) (by omega)
    · have h2 : ¬ (CapsOk V ls caps ∧ Win caps f ∧ 0 ≤ s ∧ s < V) := h
      rw [if_neg h2, if_neg h]
      exact Ev.ite_neg (by decide) (Ev.now _)

theorem Shut_ev {V : Int} {ls : List S42} {caps f : List Int} {s : Int} {r : List Int} (e : Ev (fun k => reach_Reach.f k V ls caps f s) (if RchOk V ls caps f s then (reachL r, 0) else ([], 1300))) (p : RchOk V ls caps f s → r.length = V.toNat) (t : Int) :
    Ev (fun k => reach_Shut.f k V ls caps f s t) (if RchOk V ls caps f s ∧ 0 ≤ t ∧ t < V then (!decide (t ∈ reachL r), 0) else (false, 1300)) := by
  unfold reach_Shut.f
  refine Ev.bind e ?_
  by_cases h : RchOk V ls caps f s
  · have hv8 := h.1.g.v8
    have p1 := p h
    have hl := reachTo_len r r.length
    rw [if_pos h]
    refine Ev.ite_pos rfl ?_
    refine Ev.call (graph_Has_eq _ _ _) ?_
    by_cases ht : 0 ≤ t ∧ t < V
    · refine Ev.ite_pos (decide_eq_true ht) ?_
      rw [if_pos ⟨h, ht⟩]
      exact Ev.bind (Contains_ev (reachL r) t (by show (reachTo r r.length).length ≤ _; omega)) (Ev.now _)
    · refine Ev.ite_neg (by simp only [decide_eq_true_eq]; exact ht) ?_
      rw [if_neg (fun g => ht g.2)]
      exact Ev.now _
  · rw [if_neg h, if_neg (fun g => h g.1)]
    exact Ev.ite_neg (by decide) (Ev.now _)

theorem Reaches (V : Int) (ls : List S42) (caps f : List Int) (s t : Int) (hc : caps.length + 2 < 17592186044416) (hf : f.length + 2 < 17592186044416) : Ev (fun k => tollbarlaw13_Reaches.f k V ls caps f s t) true := by
  obtain ⟨r, e1, e2, p⟩ := reach_Reach_ev V ls caps f s
  have e3 := Shut_ev e1 (fun h => (p h).1) t
  have fin : ∀ xs : List Int, xs.length ≤ 17592186044416 → Ev (fun k => tollbarlaw13_Reaches.j1 k caps f caps f xs false) true := by
    intro xs hx
    refine Ev.step (fun k => by rw [tollbarlaw13_Reaches.j1]) ?_
    refine Ev.ite_neg (by decide) ?_
    obtain ⟨q, R⟩ := SpoilInts_ev xs hx
    refine Ev.bind R (Ev.bind awake13 (Ev.ite_pos rfl ?_))
    refine Ev.bind (KeptInts_ev caps hc) (Ev.ite_pos rfl ?_)
    exact Ev.bind (KeptInts_ev f hf) (Ev.now _)
  unfold tollbarlaw13_Reaches.f
  refine Ev.call (LendInts_eq hc) (Ev.call (LendInts_eq hf) ?_)
  refine Ev.bind e1 (Ev.bind (e2 (by omega)) (Ev.bind e3 ?_))
  by_cases h : RchOk V ls caps f s
  · have hv8 := h.1.g.v8
    have p1 := (p h).1
    have hl : (reachL r).length ≤ 17592186044416 := by
      have := reachTo_len r r.length
      show (reachTo r r.length).length ≤ _
      omega
    rw [if_pos h]
    refine Ev.ite_pos rfl ?_
    by_cases ht : 0 ≤ t ∧ t < V
    · rw [if_pos ⟨h, ht⟩]
      refine Ev.ite_neg (by omega) ?_
      rw [decide_eq_false (show ¬ t ≥ V by omega)]
      refine Ev.step (fun k => by rw [tollbarlaw13_Reaches.j0]) ?_
      refine Ev.bind (SameInts_self _ hl) (Ev.ite_pos rfl ?_)
      refine Ev.call (Num_eq13 _) (Ev.ite_pos rfl (Ev.call (Num_eq13 _) (Ev.ite_neg (by show ¬ (((0 : Int) != 0) != false) = true; decide) (Ev.ite_neg (by decide) ?_))))
      refine Ev.bind (Among_ev (reachL r) t hl) ?_
      have e : ((!decide (t ∈ reachL r)) == decide (t ∈ reachL r)) = false := by cases decide (t ∈ reachL r) <;> rfl
      show Ev (fun k => tollbarlaw13_Reaches.j1 k caps f caps f (reachL r) ((!decide (t ∈ reachL r)) == decide (t ∈ reachL r))) true
      rw [e]
      exact fin _ hl
    · rw [if_neg (fun g => ht g.2)]
      have body : Ev (fun k => tollbarlaw13_Reaches.j0 k caps f t caps f (reachL r) 0 (reachL r) 0 false 1300 true) true := by
        refine Ev.step (fun k => by rw [tollbarlaw13_Reaches.j0]) ?_
        refine Ev.bind (SameInts_self _ hl) (Ev.ite_pos rfl ?_)
        refine Ev.call (Num_eq13 _) (Ev.ite_pos rfl (Ev.call (Num_eq13 _) (Ev.ite_neg (by decide) (Ev.ite_pos rfl (Ev.ite_neg (by decide) ?_)))))
        refine Ev.call (Num_eq13 _) (Ev.ite_pos rfl ?_)
        exact fin _ hl
      by_cases n : t < 0
      · exact Ev.ite_pos n body
      · refine Ev.ite_neg n ?_
        rw [decide_eq_true (show t ≥ V by omega)]
        exact body
  · rw [if_neg h, if_neg (fun g => h g.1)]
    refine Ev.ite_neg (by decide) ?_
    refine Ev.step (fun k => by rw [tollbarlaw13_Reaches.j0]) ?_
    refine Ev.bind (SameInts_self _ (by simp)) (Ev.ite_pos rfl ?_)
    refine Ev.call (Num_eq13 _) (Ev.ite_pos rfl (Ev.call (Num_eq13 _) (Ev.ite_neg (by decide) (Ev.ite_pos rfl (Ev.ite_neg (by decide) ?_)))))
    refine Ev.call (Num_eq13 _) (Ev.ite_pos rfl ?_)
    exact fin _ (by simp)

end Go.Proofs.Ytjjfpkfpmpeikaa.Q
end
