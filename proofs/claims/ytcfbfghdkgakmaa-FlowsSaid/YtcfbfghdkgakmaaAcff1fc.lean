/- Texts of this claim, one behind the other: QFlows. -/
import Derived.Test.YtcfbfghdkgakmaaA43f2ae
import Derived.Test.YtcfbfghdkgakmaaA8397e0
import Derived.Test.YtcfbfghdkgakmaaAf517e1
import Derived.Test.YtcfbfghdkgakmaaAcb536b
import Derived.Test.YtcfbfghdkgakmaaA6adecb
import Derived.Test.YtcfbfghdkgakmaaA58122c
import Derived.Test.YtcfbfghdkgakmaaA92eded
section
/- What the law Flows leans on, and the law itself on what its printed walk tells: plain. -/
namespace Go.Proofs.Ytcfbfghdkgakmaa.Q
open Go.RowKit Go.Proofs.YtcfbfghdkgakmaaW.PrintWords Go.Proofs.YtcfbfghdkgakmaaW.PrintMore Go.Proofs.Ytcfbfghdkgakmaa.PAll Go.Proofs.Ytcfbfghdkgakmaa.Plain
set_option linter.unusedVariables false
set_option linter.unusedSimpArgs false
attribute [local instance] Classical.propDecidable
/-! ### caps, lists within -/

theorem S_prefix {f : Int → Int} {n m : Nat} (h : ∀ i : Int, 0 ≤ i → i < (m : Int) → 0 ≤ f i) (hn : n ≤ m) : S n f ≤ S m f := by
  induction m with
  | zero => obtain rfl : n = 0 := by omega
            exact Int.le_refl _
  | succ m ih =>
    by_cases e : n = m + 1
    · subst e; exact Int.le_refl _
    · have h1 := ih (fun i a b => h i a (by omega)) (by omega)
      have h2 := h (m : Int) (by omega) (by omega)
      simp only [S]
      omega

theorem rate_Is_eq (x : Int) : rate_Is.f x = some (decide (0 ≤ x ∧ x ≤ 4611686018427387904)) := by
  unfold rate_Is.f
  by_cases h : x ≥ 0
  · rw [if_pos h]; congr 1; simp; omega
  · rw [if_neg h]; congr 1; simp; omega

def SumOk (xs : List Int) : Prop := (∀ i : Int, 0 ≤ i → i < (xs.length : Int) → 0 ≤ rd xs i) ∧ S xs.length (rd xs) ≤ 4611686018427387904

theorem sum_loop (xs : List Int) (hx : xs.length ≤ 4611686018427387904) (d : Nat) : ∀ (i : Nat), i ≤ xs.length → xs.length - i = d → (∀ j : Int, 0 ≤ j → j < (i : Int) → 0 ≤ rd xs j) → S i (rd xs) ≤ 4611686018427387904 →
    Ev (fun k => rate_Sum.l0 k (S i (rd xs)) xs (xs.length : Int) (i : Int)) (if SumOk xs then (S xs.length (rd xs), true) else (0, false)) := by
  induction d with
  | zero =>
    intro i hi hd hp hs
    obtain rfl : i = xs.length := by omega
    refine Ev.step (fun k => by rw [rate_Sum.l0]) ?_
    refine Ev.ite_neg (by omega) ?_
    rw [if_pos ⟨hp, hs⟩]
    exact Ev.now _
  | succ d ih =>
    intro i hi hd hp hs
    have h0 : 0 ≤ S i (rd xs) := S_nonneg hp
    refine Ev.step (fun k => by rw [rate_Sum.l0]) ?_
    refine Ev.ite_pos (by omega) ?_
    refine Ev.ite_pos (by omega) ?_
    refine Ev.ite_pos (by omega) ?_
    refine Ev.call (rate_Is_eq _) ?_
    by_cases hr : 0 ≤ rd xs i ∧ rd xs i ≤ 4611686018427387904
    · refine Ev.ite_pos (decide_eq_true hr) ?_
      by_cases hm : rd xs i > 4611686018427387904 - S i (rd xs)
      · refine Ev.ite_pos (by rw [wrap_id (by omega) (by omega)]; exact hm) ?_
        rw [if_neg]
        · exact Ev.now _
        · intro ho
          have := S_prefix (n := i + 1) ho.1 (by omega)
          simp only [S] at this
          have := ho.2
          omega
      · refine Ev.ite_neg (by rw [wrap_id (by omega) (by omega)]; exact hm) ?_
        have e2 : wrap64 (S i (rd xs) + rd xs i) = S (i + 1) (rd xs) := by rw [wrap_id (by omega) (by omega)]; rfl
        have e3 : wrap64 ((i : Int) + 1) = ((i + 1 : Nat) : Int) := wrap_succ (by omega)
        refine Ev.congr (fun k => by rw [e2, e3]) (ih (i + 1) (by omega) (by omega) ?_ ?_)
        · intro j a b
          by_cases e : j = i
          · subst e; exact hr.1
          · exact hp j a (by omega)
        · simp only [S]; omega
    · refine Ev.ite_neg (by simp only [decide_eq_true_eq]; exact hr) ?_
      rw [if_neg]
      · exact Ev.now _
      · intro ho
        have h1 := ho.1 i (by omega) (by omega)
        have := S_one_le ho.1 (k := (i : Int)) (by omega) (by omega)
        have := ho.2
        exact hr ⟨h1, by omega⟩

theorem rate_Sum_ev (xs : List Int) (hx : xs.length ≤ 4611686018427387904) : Ev (fun k => rate_Sum.f k xs) (if SumOk xs then (S xs.length (rd xs), true) else (0, false)) :=
  sum_loop xs hx xs.length 0 (by omega) (by omega) (fun j a b => by omega) (by simp [S])

def lA (ls : List S53) (i : Int) : Int := (rd_T53 ls i).f0

def lB (ls : List S53) (i : Int) : Int := (rd_T53 ls i).f1

def lC (ls : List S53) (i : Int) : Int := (rd_T53 ls i).f2

def net (V : Int) (ls : List S53) : Net := { V := V.toNat, m := ls.length, a := lA ls, b := lB ls }

structure GOk (V : Int) (ls : List S53) : Prop where
  v2 : 2 ≤ V
  v8 : V ≤ 8
  m16 : ls.length ≤ 16
  ends : (net V ls).ok
  cap : ∀ i : Int, 0 ≤ i → i < (ls.length : Int) → 0 ≤ lC ls i
  sum : S ls.length (lC ls) ≤ 4611686018427387904

theorem net_V {V : Int} {ls : List S53} (h : 0 ≤ V) : ((net V ls).V : Int) = V := by simp only [net]; omega

theorem GOk.end_ {V : Int} {ls : List S53} (h : GOk V ls) {i : Int} (h0 : 0 ≤ i) (h1 : i < (ls.length : Int)) : (0 ≤ lA ls i ∧ lA ls i < V) ∧ (0 ≤ lB ls i ∧ lB ls i < V) ∧ lA ls i ≠ lB ls i := by
  have := h.ends.h i h0 h1
  have e := net_V (V := V) (ls := ls) (by have := h.v2; omega)
  rw [e] at this
  exact this

theorem GOk.cap_le {V : Int} {ls : List S53} (h : GOk V ls) {i : Int} (h0 : 0 ≤ i) (h1 : i < (ls.length : Int)) : lC ls i ≤ 4611686018427387904 := by
  have := S_one_le h.cap h0 h1
  have := h.sum
  omega

theorem rd_map_cap (ls : List S53) {i : Int} (h0 : 0 ≤ i) (h1 : i < (ls.length : Int)) : rd (ls.map (·.f2)) i = lC ls i := by
  unfold rd lC rd_T53
  have hl : i.toNat < ls.length := by omega
  simp only [List.getD_eq_getElem?_getD, List.getElem?_map, List.getElem?_eq_getElem hl]
  rfl

theorem caps_loop (V : Int) (ls : List S53) (hx : ls.length ≤ 17592186044416) (d : Nat) : ∀ (i : Nat), i ≤ ls.length → ls.length - i = d →
    Ev (fun k => graph_Caps.l0 k ((ls.take i).map (·.f2)) ls (ls.length : Int) (i : Int)) (ls.map (·.f2)) := by
  induction d with
  | zero =>
    intro i hi hd
    obtain rfl : i = ls.length := by omega
    refine Ev.step (fun k => by rw [graph_Caps.l0]) ?_
    refine Ev.ite_neg (by omega) ?_
    rw [List.take_length]
    exact Ev.now _
  | succ d ih =>
    intro i hi hd
    refine Ev.step (fun k => by rw [graph_Caps.l0]) ?_
    refine Ev.ite_pos (by omega) ?_
    refine Ev.ite_pos (by omega) ?_
    refine Ev.ite_pos (by omega) ?_
    refine Ev.ite_pos (by simp; omega) ?_
    have e3 : wrap64 ((i : Int) + 1) = ((i + 1 : Nat) : Int) := wrap_succ (by omega)
    have e4 : (ls.take i).map (·.f2) ++ [(rd_T53 ls (i : Int)).f2] = (ls.take (i + 1)).map (·.f2) := by
      have hl : i < ls.length := by omega
      rw [List.take_succ_eq_append_getElem hl, List.map_append]
      simp only [rd_T53, Int.toNat_natCast, List.getD_eq_getElem?_getD, List.getElem?_eq_getElem hl]
      rfl
    exact Ev.congr (fun k => by rw [e3, e4]) (ih (i + 1) (by omega) (by omega))

theorem graph_Caps_ev (V : Int) (ls : List S53) (hx : ls.length ≤ 17592186044416) : Ev (fun k => graph_Caps.f k V ls) (ls.map (·.f2)) :=
  caps_loop V ls hx ls.length 0 (by omega) (by omega)

theorem graph_Has_eq (V : Int) (ls : List S53) (v : Int) : graph_Has.f V ls v = some (decide (0 ≤ v ∧ v < V)) := by
  unfold graph_Has.f
  by_cases h : v ≥ 0
  · rw [if_pos h]; congr 1; simp; omega
  · rw [if_neg h]; congr 1; simp; omega

theorem ref_Vertex_eq (V : Int) (ls : List S53) (v : Int) : tollbarref4_Vertex.f V ls v = some (decide (0 ≤ v ∧ v < V)) := by
  unfold tollbarref4_Vertex.f
  by_cases h : v ≥ 0
  · rw [if_pos h]; congr 1; simp; omega
  · rw [if_neg h]; congr 1; simp; omega

theorem caps_sum (ls : List S53) : SumOk (ls.map (·.f2)) ↔ (∀ i : Int, 0 ≤ i → i < (ls.length : Int) → 0 ≤ lC ls i) ∧ S ls.length (lC ls) ≤ 4611686018427387904 := by
  have e : S (ls.map (·.f2)).length (rd (ls.map (·.f2))) = S ls.length (lC ls) := by
    rw [List.length_map]
    exact S_congr (fun i a b => rd_map_cap ls a b)
  unfold SumOk
  rw [e, List.length_map]
  constructor
  · rintro ⟨h1, h2⟩
    exact ⟨fun i a b => by rw [← rd_map_cap ls a b]; exact h1 i a b, h2⟩
  · rintro ⟨h1, h2⟩
    exact ⟨fun i a b => by rw [rd_map_cap ls a b]; exact h1 i a b, h2⟩

/-- link i is fine -/
def LinkOk (V : Int) (ls : List S53) (i : Int) : Prop := (0 ≤ lA ls i ∧ lA ls i < V) ∧ (0 ≤ lB ls i ∧ lB ls i < V) ∧ lA ls i ≠ lB ls i

theorem gok_iff (V : Int) (ls : List S53) : GOk V ls ↔ 2 ≤ V ∧ V ≤ 8 ∧ ls.length ≤ 16 ∧ (∀ i : Int, 0 ≤ i → i < (ls.length : Int) → LinkOk V ls i) ∧ (∀ i : Int, 0 ≤ i → i < (ls.length : Int) → 0 ≤ lC ls i) ∧ S ls.length (lC ls) ≤ 4611686018427387904 := by
  constructor
  · intro h
    exact ⟨h.v2, h.v8, h.m16, fun i a b => h.end_ a b, h.cap, h.sum⟩
  · rintro ⟨h1, h2, h3, h4, h5, h6⟩
    refine ⟨h1, h2, h3, ⟨fun i a b => ?_⟩, h5, h6⟩
    rw [net_V (by omega)]
    exact h4 i a b

theorem may_loop (V : Int) (ls : List S53) (hv : 2 ≤ V ∧ V ≤ 8) (hm : ls.length ≤ 16) (d : Nat) : ∀ (i : Nat), i ≤ ls.length → ls.length - i = d → (∀ j : Int, 0 ≤ j → j < (i : Int) → LinkOk V ls j) →
    Ev (fun k => graph_May.l0 k ls (ls.length : Int) (i : Int) V ls) (decide (GOk V ls)) := by
  induction d with
  | zero =>
    intro i hi hd hp
    obtain rfl : i = ls.length := by omega
    refine Ev.step (fun k => by rw [graph_May.l0]) ?_
    refine Ev.ite_neg (by omega) ?_
    refine Ev.bind (graph_Caps_ev V ls (by omega)) ?_
    refine Ev.bind (rate_Sum_ev _ (by rw [List.length_map]; omega)) ?_
    have : (if SumOk (ls.map (·.f2)) then (S (ls.map (·.f2)).length (rd (ls.map (·.f2))), true) else ((0 : Int), false)).2 = decide (GOk V ls) := by
      by_cases hs : SumOk (ls.map (·.f2))
      · rw [if_pos hs, decide_eq_true]
        rw [gok_iff]
        have := (caps_sum ls).1 hs
        exact ⟨hv.1, hv.2, hm, hp, this.1, this.2⟩
      · rw [if_neg hs, decide_eq_false]
        rw [gok_iff]
        rintro ⟨_, _, _, _, h5, h6⟩
        exact hs ((caps_sum ls).2 ⟨h5, h6⟩)
    rw [this]
    exact Ev.now _
  | succ d ih =>
    intro i hi hd hp
    have no : ¬ LinkOk V ls i → ¬ GOk V ls := fun h g => h (((gok_iff V ls).1 g).2.2.2.1 i (by omega) (by omega))
    refine Ev.step (fun k => by rw [graph_May.l0]) ?_
    refine Ev.ite_pos (by omega) ?_
    refine Ev.ite_pos (by omega) ?_
    refine Ev.ite_pos (by omega) ?_
    refine Ev.call (graph_Has_eq _ _ _) ?_
    by_cases ha : 0 ≤ lA ls i ∧ lA ls i < V
    · refine Ev.ite_pos (decide_eq_true ha) ?_
      refine Ev.call (graph_Has_eq _ _ _) ?_
      by_cases hb : 0 ≤ lB ls i ∧ lB ls i < V
      · refine Ev.ite_pos (decide_eq_true hb) ?_
        by_cases he : lA ls i = lB ls i
        · refine Ev.ite_pos he ?_
          rw [decide_eq_false (no (fun h => h.2.2 he))]
          exact Ev.now _
        · refine Ev.ite_neg he ?_
          have e3 : wrap64 ((i : Int) + 1) = ((i + 1 : Nat) : Int) := wrap_succ (by omega)
          refine Ev.congr (fun k => by rw [e3]) (ih (i + 1) (by omega) (by omega) ?_)
          intro j a b
          by_cases e : j = i
          · subst e; exact ⟨ha, hb, he⟩
          · exact hp j a (by omega)
      · refine Ev.ite_neg (by simp only [decide_eq_true_eq]; exact hb) ?_
        rw [decide_eq_false (no (fun h => hb h.2.1))]
        exact Ev.now _
    · refine Ev.ite_neg (by simp only [decide_eq_true_eq]; exact ha) ?_
      rw [decide_eq_false (no (fun h => ha h.1))]
      exact Ev.now _

theorem graph_May_ev (V : Int) (ls : List S53) : Ev (fun k => graph_May.f k V ls) (decide (GOk V ls)) := by
  have no : ¬ (2 ≤ V ∧ V ≤ 8 ∧ ls.length ≤ 16) → Ev (fun k => graph_May.j0 k true V ls) (decide (GOk V ls)) := by
    intro h
    rw [decide_eq_false (fun g => h ⟨g.v2, g.v8, g.m16⟩)]
    refine Ev.step (fun k => by rw [graph_May.j0]) ?_
    exact Ev.ite_pos rfl (Ev.now _)
  unfold graph_May.f
  by_cases h1 : V < 2
  · exact Ev.ite_pos h1 (no (by omega))
  · refine Ev.ite_neg h1 ?_
    by_cases h2 : V > 8
    · exact Ev.ite_pos h2 (no (by omega))
    · refine Ev.ite_neg h2 ?_
      by_cases h3 : (ls.length : Int) > 16
      · rw [decide_eq_true h3]; exact no (by omega)
      · rw [decide_eq_false h3]
        refine Ev.step (fun k => by rw [graph_May.j0]) ?_
        refine Ev.ite_neg (by simp) ?_
        exact may_loop V ls (by omega) (by omega) ls.length 0 (by omega) (by omega) (fun j a b => by omega)

theorem refmay_loop (V : Int) (ls : List S53) (hv : 2 ≤ V ∧ V ≤ 8) (hm : ls.length ≤ 16) (d : Nat) : ∀ (i : Nat), i ≤ ls.length → ls.length - i = d → (∀ j : Int, 0 ≤ j → j < (i : Int) → LinkOk V ls j ∧ 0 ≤ lC ls j) → S i (lC ls) ≤ 4611686018427387904 →
    Ev (fun k => tollbarref4_GraphMay.l0 k (S i (lC ls)) (i : Int) V ls) (decide (GOk V ls)) := by
  induction d with
  | zero =>
    intro i hi hd hp hs
    obtain rfl : i = ls.length := by omega
    refine Ev.step (fun k => by rw [tollbarref4_GraphMay.l0]) ?_
    refine Ev.ite_neg (by omega) ?_
    rw [decide_eq_true ((gok_iff V ls).2 ⟨hv.1, hv.2, hm, fun j a b => (hp j a b).1, fun j a b => (hp j a b).2, hs⟩)]
    exact Ev.now _
  | succ d ih =>
    intro i hi hd hp hs
    have h0 : 0 ≤ S i (lC ls) := S_nonneg (fun j a b => (hp j a b).2)
    have no : ¬ LinkOk V ls i → ¬ GOk V ls := fun h g => h (((gok_iff V ls).1 g).2.2.2.1 i (by omega) (by omega))
    refine Ev.step (fun k => by rw [tollbarref4_GraphMay.l0]) ?_
    refine Ev.ite_pos (by omega) ?_
    refine Ev.ite_pos (by omega) ?_
    refine Ev.call (ref_Vertex_eq _ _ _) ?_
    by_cases ha : 0 ≤ lA ls i ∧ lA ls i < V
    · refine Ev.ite_pos (decide_eq_true ha) ?_
      refine Ev.call (ref_Vertex_eq _ _ _) ?_
      by_cases hb : 0 ≤ lB ls i ∧ lB ls i < V
      · refine Ev.ite_pos (decide_eq_true hb) ?_
        by_cases he : lA ls i = lB ls i
        · refine Ev.ite_pos he ?_
          rw [decide_eq_false (no (fun h => h.2.2 he))]
          exact Ev.now _
        · refine Ev.ite_neg he ?_
          by_cases hc : lC ls i < 0
          · refine Ev.ite_pos hc ?_
            rw [decide_eq_false (fun g => by have := g.cap i (by omega) (by omega); omega)]
            exact Ev.now _
          · refine Ev.ite_neg hc ?_
            by_cases hm2 : lC ls i > 4611686018427387904 - S i (lC ls)
            · refine Ev.ite_pos (by rw [wrap_id (by omega) (by omega)]; exact hm2) ?_
              rw [decide_eq_false (fun g => by
                have := S_prefix (n := i + 1) g.cap (by omega)
                simp only [S] at this
                have := g.sum
                omega)]
              exact Ev.now _
            · refine Ev.ite_neg (by rw [wrap_id (by omega) (by omega)]; exact hm2) ?_
              have X := ih (i + 1) (by omega) (by omega) (fun j a b => by
                by_cases e : j = i
                · subst e; exact ⟨⟨ha, hb, he⟩, by omega⟩
                · exact hp j a (by omega)) (by simp only [S]; omega)
              have e2 : wrap64 (S i (lC ls) + lC ls i) = S (i + 1) (lC ls) := by rw [wrap_id (by omega) (by omega)]; rfl
              have e3 : wrap64 ((i : Int) + 1) = ((i + 1 : Nat) : Int) := wrap_succ (by omega)
              exact Ev.congr (fun k => by rw [← e2, ← e3]; rfl) X
      · refine Ev.ite_neg (by simp only [decide_eq_true_eq]; exact hb) ?_
        rw [decide_eq_false (no (fun h => hb h.2.1))]
        exact Ev.now _
    · refine Ev.ite_neg (by simp only [decide_eq_true_eq]; exact ha) ?_
      rw [decide_eq_false (no (fun h => ha h.1))]
      exact Ev.now _

theorem ref_GraphMay_ev (V : Int) (ls : List S53) : Ev (fun k => tollbarref4_GraphMay.f k V ls) (decide (GOk V ls)) := by
  have no : ¬ (2 ≤ V ∧ V ≤ 8 ∧ ls.length ≤ 16) → Ev (fun k => tollbarref4_GraphMay.j0 k true V ls) (decide (GOk V ls)) := by
    intro h
    rw [decide_eq_false (fun g => h ⟨g.v2, g.v8, g.m16⟩)]
    refine Ev.step (fun k => by rw [tollbarref4_GraphMay.j0]) ?_
    exact Ev.ite_pos rfl (Ev.now _)
  unfold tollbarref4_GraphMay.f
  by_cases h1 : V < 2
  · exact Ev.ite_pos h1 (no (by omega))
  · refine Ev.ite_neg h1 ?_
    by_cases h2 : V > 8
    · exact Ev.ite_pos h2 (no (by omega))
    · refine Ev.ite_neg h2 ?_
      by_cases h3 : (ls.length : Int) > 16
      · rw [decide_eq_true h3]; exact no (by omega)
      · rw [decide_eq_false h3]
        refine Ev.step (fun k => by rw [tollbarref4_GraphMay.j0]) ?_
        refine Ev.ite_neg (by simp) ?_
        exact refmay_loop V ls (by omega) (by omega) ls.length 0 (by omega) (by omega) (fun j a b => by omega) (by simp [S])

theorem half {k : Int} (h0 : 0 ≤ k) (h1 : k < 9223372036854775807) : wrap64 (Int.tdiv k 2) = k / 2 := by
  rw [Int.tdiv_eq_ediv_of_nonneg h0, wrap_id (by omega) (by omega)]

theorem odd_ {k : Int} (h0 : 0 ≤ k) : Int.tmod k 2 = k % 2 := Int.tmod_eq_emod_of_nonneg h0

theorem twice_ {ls : List S53} (hm : ls.length ≤ 4096) : wrap64 (2 * (ls.length : Int)) = 2 * (ls.length : Int) := wrap_id (by omega) (by omega)

structure CapsOk (V : Int) (ls : List S53) (caps : List Int) : Prop where
  g : GOk V ls
  len : caps.length = ls.length
  le : ∀ i : Int, 0 ≤ i → i < (caps.length : Int) → 0 ≤ rd caps i ∧ rd caps i ≤ lC ls i

structure Win (caps f : List Int) : Prop where
  len : f.length = caps.length
  le : ∀ i : Int, 0 ≤ i → i < (f.length : Int) → 0 ≤ rd f i ∧ rd f i ≤ rd caps i

theorem takes_loop (V : Int) (ls : List S53) (caps : List Int) (hg : GOk V ls) (hl : caps.length = ls.length) (d : Nat) : ∀ (i : Nat), i ≤ caps.length → caps.length - i = d → (∀ j : Int, 0 ≤ j → j < (i : Int) → 0 ≤ rd caps j ∧ rd caps j ≤ lC ls j) →
    Ev (fun k => graph_Takes.l0 k caps (caps.length : Int) (i : Int) V ls) (decide (CapsOk V ls caps)) := by
  induction d with
  | zero =>
    intro i hi hd hp
    obtain rfl : i = caps.length := by omega
    refine Ev.step (fun k => by rw [graph_Takes.l0]) ?_
    refine Ev.ite_neg (by omega) ?_
    rw [decide_eq_true (⟨hg, hl, hp⟩ : CapsOk V ls caps)]
    exact Ev.now _
  | succ d ih =>
    intro i hi hd hp
    have hm := hg.m16
    refine Ev.step (fun k => by rw [graph_Takes.l0]) ?_
    refine Ev.ite_pos (by omega) ?_
    refine Ev.ite_pos (by omega) ?_
    refine Ev.ite_pos (by omega) ?_
    by_cases h1 : rd caps i < 0
    · refine Ev.ite_pos h1 ?_
      rw [decide_eq_false (fun h : CapsOk V ls caps => by have := h.le i (by omega) (by omega); omega)]
      exact Ev.now _
    · refine Ev.ite_neg h1 ?_
      refine Ev.ite_pos (by omega) ?_
      by_cases h2 : rd caps i > lC ls i
      · refine Ev.ite_pos h2 ?_
        rw [decide_eq_false (fun h : CapsOk V ls caps => by have := h.le i (by omega) (by omega); omega)]
        exact Ev.now _
      · refine Ev.ite_neg h2 ?_
        have X := ih (i + 1) (by omega) (by omega) (fun j a b => by
          by_cases e : j = i
          · subst e; omega
          · exact hp j a (by omega))
        have e3 : wrap64 ((i : Int) + 1) = ((i + 1 : Nat) : Int) := wrap_succ (by omega)
        exact Ev.congr (fun k => by rw [e3]) X

theorem graph_Takes_ev (V : Int) (ls : List S53) (caps : List Int) : Ev (fun k => graph_Takes.f k V ls caps) (decide (CapsOk V ls caps)) := by
  have no : ¬ CapsOk V ls caps → Ev (fun k => graph_Takes.j0 k caps true V ls) (decide (CapsOk V ls caps)) := by
    intro h
    rw [decide_eq_false h]
    refine Ev.step (fun k => by rw [graph_Takes.j0]) ?_
    exact Ev.ite_pos rfl (Ev.now _)
  unfold graph_Takes.f
  refine Ev.bind (graph_May_ev V ls) ?_
  by_cases h : GOk V ls
  · refine Ev.ite_pos (decide_eq_true h) ?_
    by_cases hl : caps.length = ls.length
    · have e : ((caps.length : Int) != (ls.length : Int)) = false := by simp [hl]
      rw [e]
      refine Ev.step (fun k => by rw [graph_Takes.j0]) ?_
      refine Ev.ite_neg (by simp) ?_
      exact takes_loop V ls caps h hl caps.length 0 (by omega) (by omega) (fun j a b => by omega)
    · have e : ((caps.length : Int) != (ls.length : Int)) = true := by simp; omega
      rw [e]
      exact no (fun g => hl g.len)
  · refine Ev.ite_neg (by simp only [decide_eq_true_eq]; exact h) ?_
    exact no (fun g => h g.g)

theorem capsmay_loop (V : Int) (ls : List S53) (caps : List Int) (hg : GOk V ls) (hl : caps.length = ls.length) (d : Nat) : ∀ (i : Nat), i ≤ caps.length → caps.length - i = d → (∀ j : Int, 0 ≤ j → j < (i : Int) → 0 ≤ rd caps j ∧ rd caps j ≤ lC ls j) →
    Ev (fun k => tollbarref4_CapsMay.l0 k caps (i : Int) V ls) (decide (CapsOk V ls caps)) := by
  induction d with
  | zero =>
    intro i hi hd hp
    obtain rfl : i = caps.length := by omega
    refine Ev.step (fun k => by rw [tollbarref4_CapsMay.l0]) ?_
    refine Ev.ite_neg (by omega) ?_
    rw [decide_eq_true (⟨hg, hl, hp⟩ : CapsOk V ls caps)]
    exact Ev.now _
  | succ d ih =>
    intro i hi hd hp
    have hm := hg.m16
    refine Ev.step (fun k => by rw [tollbarref4_CapsMay.l0]) ?_
    refine Ev.ite_pos (by omega) ?_
    refine Ev.ite_pos (by omega) ?_
    by_cases h1 : rd caps i < 0
    · refine Ev.ite_pos h1 ?_
      rw [decide_eq_false (fun h : CapsOk V ls caps => by have := h.le i (by omega) (by omega); omega)]
      exact Ev.now _
    · refine Ev.ite_neg h1 ?_
      refine Ev.ite_pos (by omega) ?_
      by_cases h2 : rd caps i > lC ls i
      · refine Ev.ite_pos h2 ?_
        rw [decide_eq_false (fun h : CapsOk V ls caps => by have := h.le i (by omega) (by omega); omega)]
        exact Ev.now _
      · refine Ev.ite_neg h2 ?_
        have X := ih (i + 1) (by omega) (by omega) (fun j a b => by
          by_cases e : j = i
          · subst e; omega
          · exact hp j a (by omega))
        have e3 : wrap64 ((i : Int) + 1) = ((i + 1 : Nat) : Int) := wrap_succ (by omega)
        exact Ev.congr (fun k => by rw [e3]) X

theorem ref_CapsMay_ev (V : Int) (ls : List S53) (caps : List Int) : Ev (fun k => tollbarref4_CapsMay.f k V ls caps) (decide (CapsOk V ls caps)) := by
  have no : ¬ CapsOk V ls caps → Ev (fun k => tollbarref4_CapsMay.j0 k caps true V ls) (decide (CapsOk V ls caps)) := by
    intro h
    rw [decide_eq_false h]
    refine Ev.step (fun k => by rw [tollbarref4_CapsMay.j0]) ?_
    exact Ev.ite_pos rfl (Ev.now _)
  unfold tollbarref4_CapsMay.f
  refine Ev.bind (ref_GraphMay_ev V ls) ?_
  by_cases h : GOk V ls
  · refine Ev.ite_pos (decide_eq_true h) ?_
    by_cases hl : caps.length = ls.length
    · have e : ((caps.length : Int) != (ls.length : Int)) = false := by simp [hl]
      rw [e]
      refine Ev.step (fun k => by rw [tollbarref4_CapsMay.j0]) ?_
      refine Ev.ite_neg (by simp) ?_
      exact capsmay_loop V ls caps h hl caps.length 0 (by omega) (by omega) (fun j a b => by omega)
    · have e : ((caps.length : Int) != (ls.length : Int)) = true := by simp; omega
      rw [e]
      exact no (fun g => hl g.len)
  · refine Ev.ite_neg (by simp only [decide_eq_true_eq]; exact h) ?_
    exact no (fun g => h g.g)

theorem within_loop (caps f : List Int) (hl : f.length = caps.length) (hx : f.length ≤ 17592186044416) (d : Nat) : ∀ (i : Nat), i ≤ f.length → f.length - i = d → (∀ j : Int, 0 ≤ j → j < (i : Int) → 0 ≤ rd f j ∧ rd f j ≤ rd caps j) →
    Ev (fun k => tollbarref4_Within.l0 k caps f (i : Int)) (decide (Win caps f)) := by
  induction d with
  | zero =>
    intro i hi hd hp
    obtain rfl : i = f.length := by omega
    refine Ev.step (fun k => by rw [tollbarref4_Within.l0]) ?_
    refine Ev.ite_neg (by omega) ?_
    rw [decide_eq_true (⟨hl, hp⟩ : Win caps f)]
    exact Ev.now _
  | succ d ih =>
    intro i hi hd hp
    refine Ev.step (fun k => by rw [tollbarref4_Within.l0]) ?_
    refine Ev.ite_pos (by omega) ?_
    refine Ev.ite_pos (by omega) ?_
    by_cases h1 : rd f i < 0
    · refine Ev.ite_pos h1 ?_
      rw [decide_eq_false (fun h : Win caps f => by have := h.le i (by omega) (by omega); omega)]
      exact Ev.now _
    · refine Ev.ite_neg h1 ?_
      refine Ev.ite_pos (by omega) ?_
      by_cases h2 : rd f i > rd caps i
      · refine Ev.ite_pos h2 ?_
        rw [decide_eq_false (fun h : Win caps f => by have := h.le i (by omega) (by omega); omega)]
        exact Ev.now _
      · refine Ev.ite_neg h2 ?_
        have X := ih (i + 1) (by omega) (by omega) (fun j a b => by
          by_cases e : j = i
          · subst e; omega
          · exact hp j a (by omega))
        have e3 : wrap64 ((i : Int) + 1) = ((i + 1 : Nat) : Int) := wrap_succ (by omega)
        exact Ev.congr (fun k => by rw [e3]) X

theorem ref_Within_ev (caps f : List Int) (hx : f.length ≤ 17592186044416) : Ev (fun k => tollbarref4_Within.f k caps f) (decide (Win caps f)) := by
  unfold tollbarref4_Within.f
  by_cases hl : f.length = caps.length
  · refine Ev.ite_pos (by omega) ?_
    exact within_loop caps f hl hx f.length 0 (by omega) (by omega) (fun j a b => by omega)
  · refine Ev.ite_neg (by omega) ?_
    rw [decide_eq_false (fun h : Win caps f => hl h.len)]
    exact Ev.now _

theorem lies_loop (caps f : List Int) (hl : f.length = caps.length) (hx : f.length ≤ 17592186044416) (d : Nat) : ∀ (i : Nat), i ≤ f.length → f.length - i = d → (∀ j : Int, 0 ≤ j → j < (i : Int) → 0 ≤ rd f j ∧ rd f j ≤ rd caps j) →
    Ev (fun k => stream_Lies.l0 k caps f (f.length : Int) (i : Int)) (decide (Win caps f)) := by
  induction d with
  | zero =>
    intro i hi hd hp
    obtain rfl : i = f.length := by omega
    refine Ev.step (fun k => by rw [stream_Lies.l0]) ?_
    refine Ev.ite_neg (by omega) ?_
    rw [decide_eq_true (⟨hl, hp⟩ : Win caps f)]
    exact Ev.now _
  | succ d ih =>
    intro i hi hd hp
    refine Ev.step (fun k => by rw [stream_Lies.l0]) ?_
    refine Ev.ite_pos (by omega) ?_
    refine Ev.ite_pos (by omega) ?_
    refine Ev.ite_pos (by omega) ?_
    by_cases h1 : rd f i < 0
    · refine Ev.ite_pos h1 ?_
      rw [decide_eq_false (fun h : Win caps f => by have := h.le i (by omega) (by omega); omega)]
      exact Ev.now _
    · refine Ev.ite_neg h1 ?_
      refine Ev.ite_pos (by omega) ?_
      by_cases h2 : rd f i > rd caps i
      · refine Ev.ite_pos h2 ?_
        rw [decide_eq_false (fun h : Win caps f => by have := h.le i (by omega) (by omega); omega)]
        exact Ev.now _
      · refine Ev.ite_neg h2 ?_
        have X := ih (i + 1) (by omega) (by omega) (fun j a b => by
          by_cases e : j = i
          · subst e; omega
          · exact hp j a (by omega))
        have e3 : wrap64 ((i : Int) + 1) = ((i + 1 : Nat) : Int) := wrap_succ (by omega)
        exact Ev.congr (fun k => by rw [e3]) X

theorem stream_Lies_ev (V : Int) (ls : List S53) (caps f : List Int) : Ev (fun k => stream_Lies.f k V ls caps f) (decide (CapsOk V ls caps ∧ Win caps f)) := by
  have no : ¬ (CapsOk V ls caps ∧ Win caps f) → Ev (fun k => stream_Lies.j0 k caps f true) (decide (CapsOk V ls caps ∧ Win caps f)) := by
    intro h
    rw [decide_eq_false h]
    refine Ev.step (fun k => by rw [stream_Lies.j0]) ?_
    exact Ev.ite_pos rfl (Ev.now _)
  unfold stream_Lies.f
  refine Ev.bind (graph_Takes_ev V ls caps) ?_
  by_cases h : CapsOk V ls caps
  · refine Ev.ite_pos (decide_eq_true h) ?_
    by_cases hl : f.length = caps.length
    · have e : ((f.length : Int) != (caps.length : Int)) = false := by simp [hl]
      rw [e]
      refine Ev.step (fun k => by rw [stream_Lies.j0]) ?_
      refine Ev.ite_neg (by simp) ?_
      have e2 : (CapsOk V ls caps ∧ Win caps f) = Win caps f := by simp [h]
      simp only [e2]
      exact lies_loop caps f hl (by have := h.g.m16; have := h.len; omega) f.length 0 (by omega) (by omega) (fun j a b => by omega)
    · have e : ((f.length : Int) != (caps.length : Int)) = true := by simp; omega
      rw [e]
      exact no (fun g => hl g.2.len)
  · refine Ev.ite_neg (by simp only [decide_eq_true_eq]; exact h) ?_
    exact no (fun g => h g.1)

/-- what the first n links bring a vertex -/
def gainTo (N : Net) (f : Int → Int) (v : Int) (n : Nat) : Int := S n (fun i => (if N.a i = v then f i else 0) - (if N.b i = v then f i else 0))

theorem S_abs {n : Nat} {f g : Int → Int} (h : ∀ i : Int, 0 ≤ i → i < (n : Int) → -(g i) ≤ f i ∧ f i ≤ g i) : -(S n g) ≤ S n f ∧ S n f ≤ S n g := by
  induction n with
  | zero => simp [S]
  | succ n ih =>
    have h1 := ih (fun i a b => h i a (by omega))
    have h2 := h n (by omega) (by omega)
    simp only [S]
    omega

/-- a list within a graph's own caps -/
structure Fine (V : Int) (ls : List S53) (f : List Int) : Prop where
  g : GOk V ls
  len : f.length = ls.length
  le : ∀ i : Int, 0 ≤ i → i < (ls.length : Int) → 0 ≤ rd f i ∧ rd f i ≤ lC ls i

theorem Fine.of {V : Int} {ls : List S53} {caps f : List Int} (h : CapsOk V ls caps) (w : Win caps f) : Fine V ls f :=
  ⟨h.g, by rw [w.len, h.len], fun i a b => by
    have h1 := w.le i a (by rw [w.len, h.len]; exact b)
    have h2 := h.le i a (by rw [h.len]; exact b)
    omega⟩

theorem Fine.sum_le {V : Int} {ls : List S53} {f : List Int} (h : Fine V ls f) {n : Nat} (hn : n ≤ ls.length) : 0 ≤ S n (rd f) ∧ S n (rd f) ≤ 4611686018427387904 := by
  have h1 : S n (rd f) ≤ S ls.length (rd f) := S_prefix (fun i a b => (h.le i a b).1) hn
  have h2 : S ls.length (rd f) ≤ S ls.length (lC ls) := S_le (fun i a b => (h.le i a b).2)
  have h3 := h.g.sum
  have h4 : 0 ≤ S n (rd f) := S_nonneg (fun i a b => (h.le i a (by omega)).1)
  omega

theorem Fine.gain_bound {V : Int} {ls : List S53} {f : List Int} (h : Fine V ls f) (v : Int) {n : Nat} (hn : n ≤ ls.length) :
    -4611686018427387904 ≤ gainTo (net V ls) (rd f) v n ∧ gainTo (net V ls) (rd f) v n ≤ 4611686018427387904 := by
  have h1 := h.sum_le hn
  have h2 := S_abs (n := n) (f := fun i => (if (net V ls).a i = v then rd f i else 0) - (if (net V ls).b i = v then rd f i else 0)) (g := rd f) (fun i a b => by
    have h3 := h.le i a (by omega)
    have h4 := h.g.end_ (i := i) a (by omega)
    have h5 : ¬ ((net V ls).a i = v ∧ (net V ls).b i = v) := fun e => h4.2.2 (e.1.trans e.2.symm)
    by_cases ea : (net V ls).a i = v
    · have eb : ¬ (net V ls).b i = v := fun e => h5 ⟨ea, e⟩
      rw [if_pos ea, if_neg eb]; omega
    · rw [if_neg ea]
      by_cases eb : (net V ls).b i = v
      · rw [if_pos eb]; omega
      · rw [if_neg eb]; omega)
  unfold gainTo
  omega

theorem gains_loop (V : Int) (ls : List S53) (f : List Int) (h : Fine V ls f) (d : Nat) : ∀ (i : Nat), i ≤ ls.length → ls.length - i = d →
    Ev (fun k => stream_gains.l0 k f (tab V.toNat (fun v => gainTo (net V ls) (rd f) v i)) ls (ls.length : Int) (i : Int)) (tab V.toNat (gain (net V ls) (rd f))) := by
  induction d with
  | zero =>
    intro i hi hd
    obtain rfl : i = ls.length := by omega
    refine Ev.step (fun k => by rw [stream_gains.l0]) ?_
    refine Ev.ite_neg (by omega) ?_
    exact Ev.now _
  | succ d ih =>
    intro i hi hd
    have X := ih (i + 1) (by omega) (by omega)
    have hv := h.g.v8
    have hm := h.g.m16
    obtain ⟨⟨a0, a1⟩, ⟨b0, b1⟩, hab⟩ := h.g.end_ (i := (i : Int)) (by omega) (by omega)
    have hl : (tab V.toNat (fun v => gainTo (net V ls) (rd f) v i)).length = V.toNat := tab_len _ _
    refine Ev.step (fun k => by rw [stream_gains.l0]) ?_
    refine Ev.ite_pos (by omega) ?_
    refine Ev.ite_pos (by omega) ?_
    refine Ev.ite_pos (by omega) ?_
    refine Ev.ite_pos a0 ?_
    refine Ev.ite_pos (by show lA ls i < _; rw [hl]; omega) ?_
    refine Ev.ite_pos (by have := h.len; omega) ?_
    refine Ev.call rfl ?_
    refine Ev.ite_pos b0 ?_
    refine Ev.ite_pos (by show lB ls i < _; rw [hl]; omega) ?_
    have key : ((tab V.toNat (fun v => gainTo (net V ls) (rd f) v i)).set (lA ls i).toNat (wrap64 (rd (tab V.toNat (fun v => gainTo (net V ls) (rd f) v i)) (lA ls i) + rd f i))).set (lB ls i).toNat
        (wrap64 (rd ((tab V.toNat (fun v => gainTo (net V ls) (rd f) v i)).set (lA ls i).toNat (wrap64 (rd (tab V.toNat (fun v => gainTo (net V ls) (rd f) v i)) (lA ls i) + rd f i))) (lB ls i) - rd f i))
        = tab V.toNat (fun v => gainTo (net V ls) (rd f) v (i + 1)) := by
      refine eq_tab (by rw [List.length_set, List.length_set, hl]) (fun v v0 v1 => ?_)
      have g1 := h.gain_bound v (n := i + 1) (by omega)
      have hf := h.le (i : Int) (by omega) (by omega)
      have e0 : gainTo (net V ls) (rd f) v (i + 1) = gainTo (net V ls) (rd f) v i + ((if lA ls i = v then rd f i else 0) - (if lB ls i = v then rd f i else 0)) := rfl
      rw [rd_set b0 (by rw [List.length_set, hl]; omega) v0]
      by_cases eb : v = lB ls i
      · subst eb
        rw [if_pos rfl, rd_set a0 (by rw [hl]; omega) b0, if_neg (fun e => hab e.symm), rd_tab b0 v1, e0, if_neg hab, if_pos rfl]
        rw [e0, if_neg hab, if_pos rfl] at g1
        rw [wrap_id (by omega) (by omega)]
        omega
      · rw [if_neg eb, rd_set a0 (by rw [hl]; omega) v0]
        by_cases ea : v = lA ls i
        · subst ea
          rw [if_pos rfl, rd_tab a0 v1, e0, if_pos rfl, if_neg (fun e => hab e.symm)]
          rw [e0, if_pos rfl, if_neg (fun e => hab e.symm)] at g1
          rw [wrap_id (by omega) (by omega)]
          omega
        · rw [if_neg ea, rd_tab v0 v1, e0, if_neg (fun e => ea e.symm), if_neg (fun e => eb e.symm)]
          omega
    have e3 : wrap64 ((i : Int) + 1) = ((i + 1 : Nat) : Int) := wrap_succ (by omega)
    rw [← key] at X
    exact Ev.congr (fun k => by rw [e3]; rfl) X

theorem stream_gains_ev (V : Int) (ls : List S53) (f : List Int) (h : Fine V ls f) : Ev (fun k => stream_gains.f k V ls f) (tab V.toNat (gain (net V ls) (rd f))) := by
  have hv := h.g.v8
  have hv2 := h.g.v2
  unfold stream_gains.f
  refine Ev.ite_pos (by omega) ?_
  refine Ev.ite_pos (by omega) ?_
  have X := gains_loop V ls f h ls.length 0 (by omega) (by omega)
  have e : tab V.toNat (fun v => gainTo (net V ls) (rd f) v 0) = List.replicate V.toNat 0 :=
    (eq_tab (by simp) (fun i a b => by rw [rd_rep a b]; rfl)).symm
  rw [e] at X
  exact X

theorem ref_gain_loop (V : Int) (ls : List S53) (f : List Int) (h : Fine V ls f) (v : Int) (d : Nat) : ∀ (i : Nat), i ≤ ls.length → ls.length - i = d →
    Ev (fun k => tollbarref4_Gain.l0 k f v (gainTo (net V ls) (rd f) v i) (i : Int) V ls) (gain (net V ls) (rd f) v) := by
  induction d with
  | zero =>
    intro i hi hd
    obtain rfl : i = ls.length := by omega
    refine Ev.step (fun k => by rw [tollbarref4_Gain.l0]) ?_
    refine Ev.ite_neg (by omega) ?_
    exact Ev.now _
  | succ d ih =>
    intro i hi hd
    have X := ih (i + 1) (by omega) (by omega)
    have hm := h.g.m16
    obtain ⟨⟨a0, a1⟩, ⟨b0, b1⟩, hab⟩ := h.g.end_ (i := (i : Int)) (by omega) (by omega)
    have hf := h.le (i : Int) (by omega) (by omega)
    have hlen := h.len
    have g1 := h.gain_bound v (n := i + 1) (by omega)
    have g0 := h.gain_bound v (n := i) (by omega)
    have e0 : gainTo (net V ls) (rd f) v (i + 1) = gainTo (net V ls) (rd f) v i + ((if lA ls i = v then rd f i else 0) - (if lB ls i = v then rd f i else 0)) := rfl
    refine Ev.step (fun k => by rw [tollbarref4_Gain.l0]) ?_
    refine Ev.ite_pos (by omega) ?_
    refine Ev.ite_pos (by omega) ?_
    by_cases ea : lA ls i = v
    · refine Ev.ite_pos ea ?_
      refine Ev.ite_pos (by omega) ?_
      have nb : ¬ lB ls i = v := fun e => hab (ea.trans e.symm)
      refine Ev.ite_neg nb ?_
      rw [e0, if_pos ea, if_neg nb] at g1 X
      have e1 : wrap64 (gainTo (net V ls) (rd f) v i + rd f i) = gainTo (net V ls) (rd f) v i + (rd f i - 0) := by rw [wrap_id (by omega) (by omega)]; omega
      have e3 : wrap64 ((i : Int) + 1) = ((i + 1 : Nat) : Int) := wrap_succ (by omega)
      exact Ev.congr (fun k => by rw [e1, e3]) X
    · refine Ev.ite_neg ea ?_
      by_cases eb : lB ls i = v
      · refine Ev.ite_pos eb ?_
        refine Ev.ite_pos (by omega) ?_
        rw [e0, if_neg ea, if_pos eb] at g1 X
        have e1 : wrap64 (gainTo (net V ls) (rd f) v i - rd f i) = gainTo (net V ls) (rd f) v i + (0 - rd f i) := by rw [wrap_id (by omega) (by omega)]; omega
        have e3 : wrap64 ((i : Int) + 1) = ((i + 1 : Nat) : Int) := wrap_succ (by omega)
        exact Ev.congr (fun k => by rw [e1, e3]) X
      · refine Ev.ite_neg eb ?_
        rw [e0, if_neg ea, if_neg eb] at X
        have e1 : gainTo (net V ls) (rd f) v i + (0 - 0) = gainTo (net V ls) (rd f) v i := by omega
        rw [e1] at X
        have e3 : wrap64 ((i : Int) + 1) = ((i + 1 : Nat) : Int) := wrap_succ (by omega)
        exact Ev.congr (fun k => by rw [e3]) X

theorem ref_Gain_ev (V : Int) (ls : List S53) (f : List Int) (h : Fine V ls f) (v : Int) : Ev (fun k => tollbarref4_Gain.f k V ls f v) (gain (net V ls) (rd f) v) :=
  ref_gain_loop V ls f h v ls.length 0 (by omega) (by omega)

structure FlowOk (V : Int) (ls : List S53) (caps f : List Int) (s t : Int) : Prop where
  c : CapsOk V ls caps
  w : Win caps f
  vs : 0 ≤ s ∧ s < V
  vt : 0 ≤ t ∧ t < V
  ne : s ≠ t
  pos : 0 ≤ gain (net V ls) (rd f) s
  keep : ∀ v : Int, 0 ≤ v → v < V → v ≠ s → v ≠ t → gain (net V ls) (rd f) v = 0

theorem flow_loop (V : Int) (ls : List S53) (caps f : List Int) (s t : Int) (hf : CapsOk V ls caps) (hw : Win caps f) (hs : 0 ≤ s ∧ s < V) (ht : 0 ≤ t ∧ t < V) (ne : s ≠ t) (d : Nat) : ∀ (i : Nat), (i : Int) ≤ V → V.toNat - i = d →
    (∀ v : Int, 0 ≤ v → v < (i : Int) → (v = s → 0 ≤ gain (net V ls) (rd f) s) ∧ (v ≠ s → v ≠ t → gain (net V ls) (rd f) v = 0)) →
    Ev (fun k => stream_May.l0 k s t (tab V.toNat (gain (net V ls) (rd f))) ((tab V.toNat (gain (net V ls) (rd f))).length : Int) (i : Int)) (decide (FlowOk V ls caps f s t)) := by
  have hl : (tab V.toNat (gain (net V ls) (rd f))).length = V.toNat := tab_len _ _
  have hv := hf.g.v8
  induction d with
  | zero =>
    intro i hi hd hp
    refine Ev.step (fun k => by rw [stream_May.l0]) ?_
    refine Ev.ite_neg (by omega) ?_
    rw [decide_eq_true (⟨hf, hw, hs, ht, ne, (hp s hs.1 (by omega)).1 rfl, fun v a b c d => (hp v a (by omega)).2 c d⟩ : FlowOk V ls caps f s t)]
    exact Ev.now _
  | succ d ih =>
    intro i hi hd hp
    have X := ih (i + 1) (by omega) (by omega)
    refine Ev.step (fun k => by rw [stream_May.l0]) ?_
    refine Ev.ite_pos (by omega) ?_
    refine Ev.ite_pos (by omega) ?_
    refine Ev.ite_pos (by omega) ?_
    have er : rd (tab V.toNat (gain (net V ls) (rd f))) (i : Int) = gain (net V ls) (rd f) i := rd_tab (by omega) (by omega)
    rw [er]
    by_cases es : (i : Int) = s
    · refine Ev.ite_pos es ?_
      by_cases hg : gain (net V ls) (rd f) i < 0
      · refine Ev.ite_pos hg ?_
        rw [decide_eq_false (fun h : FlowOk V ls caps f s t => by have := h.pos; rw [es] at hg; omega)]
        exact Ev.now _
      · refine Ev.ite_neg hg ?_
        have Y := X (fun v a b => by
          by_cases e : v = i
          · subst e; exact ⟨fun _ => by rw [← es]; omega, fun c => absurd es c⟩
          · exact hp v a (by omega))
        have e3 : wrap64 ((i : Int) + 1) = ((i + 1 : Nat) : Int) := wrap_succ (by omega)
        exact Ev.congr (fun k => by rw [e3]) Y
    · refine Ev.ite_neg es ?_
      by_cases et : (i : Int) = t
      · refine Ev.ite_pos et ?_
        have Y := X (fun v a b => by
          by_cases e : v = i
          · subst e; exact ⟨fun c => absurd c es, fun _ c => absurd et c⟩
          · exact hp v a (by omega))
        have e3 : wrap64 ((i : Int) + 1) = ((i + 1 : Nat) : Int) := wrap_succ (by omega)
        exact Ev.congr (fun k => by rw [e3]) Y
      · refine Ev.ite_neg et ?_
        by_cases hg : gain (net V ls) (rd f) i = 0
        · refine Ev.ite_pos hg ?_
          have Y := X (fun v a b => by
            by_cases e : v = i
            · subst e; exact ⟨fun c => absurd c es, fun _ _ => hg⟩
            · exact hp v a (by omega))
          have e3 : wrap64 ((i : Int) + 1) = ((i + 1 : Nat) : Int) := wrap_succ (by omega)
          exact Ev.congr (fun k => by rw [e3]) Y
        · refine Ev.ite_neg hg ?_
          rw [decide_eq_false (fun h : FlowOk V ls caps f s t => hg (h.keep i (by omega) (by omega) es et))]
          exact Ev.now _

theorem stream_May_ev (V : Int) (ls : List S53) (caps f : List Int) (s t : Int) : Ev (fun k => stream_May.f k V ls caps f s t) (decide (FlowOk V ls caps f s t)) := by
  have no : ¬ FlowOk V ls caps f s t → Ev (fun k => stream_May.j0 k f s t true V ls) (decide (FlowOk V ls caps f s t)) := by
    intro h
    rw [decide_eq_false h]
    refine Ev.step (fun k => by rw [stream_May.j0]) ?_
    exact Ev.ite_pos rfl (Ev.now _)
  unfold stream_May.f
  refine Ev.bind (stream_Lies_ev V ls caps f) ?_
  by_cases h : CapsOk V ls caps ∧ Win caps f
  · refine Ev.ite_pos (decide_eq_true h) ?_
    refine Ev.call (graph_Has_eq _ _ _) ?_
    by_cases hs : 0 ≤ s ∧ s < V
    · refine Ev.ite_pos (decide_eq_true hs) ?_
      refine Ev.call (graph_Has_eq _ _ _) ?_
      by_cases ht : 0 ≤ t ∧ t < V
      · refine Ev.ite_pos (decide_eq_true ht) ?_
        by_cases ne : s = t
        · have e : (s == t) = true := by simp [ne]
          rw [e]
          exact no (fun g => g.ne ne)
        · have e : (s == t) = false := by simp [ne]
          rw [e]
          refine Ev.step (fun k => by rw [stream_May.j0]) ?_
          refine Ev.ite_neg (by simp) ?_
          refine Ev.bind (stream_gains_ev V ls f (Fine.of h.1 h.2)) ?_
          exact flow_loop V ls caps f s t h.1 h.2 hs ht ne V.toNat 0 (by omega) (by omega) (fun v a b => by omega)
      · refine Ev.ite_neg (by simp only [decide_eq_true_eq]; exact ht) ?_
        exact no (fun g => ht g.vt)
    · refine Ev.ite_neg (by simp only [decide_eq_true_eq]; exact hs) ?_
      exact no (fun g => hs g.vs)
  · refine Ev.ite_neg (by simp only [decide_eq_true_eq]; exact h) ?_
    exact no (fun g => h ⟨g.c, g.w⟩)

theorem refflow_loop (V : Int) (ls : List S53) (caps f : List Int) (s t : Int) (hf : CapsOk V ls caps) (hw : Win caps f) (hs : 0 ≤ s ∧ s < V) (ht : 0 ≤ t ∧ t < V) (ne : s ≠ t) (hpos : 0 ≤ gain (net V ls) (rd f) s) (d : Nat) : ∀ (i : Nat), (i : Int) ≤ V → V.toNat - i = d →
    (∀ v : Int, 0 ≤ v → v < (i : Int) → v ≠ s → v ≠ t → gain (net V ls) (rd f) v = 0) →
    Ev (fun k => tollbarref4_FlowMay.l0 k f s t (i : Int) V ls) (decide (FlowOk V ls caps f s t)) := by
  have hv := hf.g.v8
  induction d with
  | zero =>
    intro i hi hd hp
    refine Ev.step (fun k => by rw [tollbarref4_FlowMay.l0]) ?_
    refine Ev.ite_neg (by omega) ?_
    rw [decide_eq_true (⟨hf, hw, hs, ht, ne, hpos, fun v a b c d => hp v a (by omega) c d⟩ : FlowOk V ls caps f s t)]
    exact Ev.now _
  | succ d ih =>
    intro i hi hd hp
    have X := ih (i + 1) (by omega) (by omega)
    refine Ev.step (fun k => by rw [tollbarref4_FlowMay.l0]) ?_
    refine Ev.ite_pos (by omega) ?_
    by_cases es : (i : Int) = s
    · refine Ev.ite_pos es ?_
      have Y := X (fun v a b c c' => by
        by_cases e : v = i
        · subst e; exact absurd es c
        · exact hp v a (by omega) c c')
      have e3 : wrap64 ((i : Int) + 1) = ((i + 1 : Nat) : Int) := wrap_succ (by omega)
      exact Ev.congr (fun k => by rw [e3]) Y
    · refine Ev.ite_neg es ?_
      by_cases et : (i : Int) = t
      · refine Ev.ite_pos et ?_
        have Y := X (fun v a b c c' => by
          by_cases e : v = i
          · subst e; exact absurd et c'
          · exact hp v a (by omega) c c')
        have e3 : wrap64 ((i : Int) + 1) = ((i + 1 : Nat) : Int) := wrap_succ (by omega)
        exact Ev.congr (fun k => by rw [e3]) Y
      · refine Ev.ite_neg et ?_
        refine Ev.bind (ref_Gain_ev V ls f (Fine.of hf hw) i) ?_
        by_cases hg : gain (net V ls) (rd f) i = 0
        · refine Ev.ite_pos hg ?_
          have Y := X (fun v a b c c' => by
            by_cases e : v = i
            · subst e; exact hg
            · exact hp v a (by omega) c c')
          have e3 : wrap64 ((i : Int) + 1) = ((i + 1 : Nat) : Int) := wrap_succ (by omega)
          exact Ev.congr (fun k => by rw [e3]) Y
        · refine Ev.ite_neg hg ?_
          rw [decide_eq_false (fun h : FlowOk V ls caps f s t => hg (h.keep i (by omega) (by omega) es et))]
          exact Ev.now _

theorem ref_FlowMay_ev (V : Int) (ls : List S53) (caps f : List Int) (s t : Int) (hx : f.length ≤ 17592186044416) : Ev (fun k => tollbarref4_FlowMay.f k V ls caps f s t) (decide (FlowOk V ls caps f s t)) := by
  have no : ¬ FlowOk V ls caps f s t → Ev (fun k => tollbarref4_FlowMay.j0 k f s t true V ls) (decide (FlowOk V ls caps f s t)) := by
    intro h
    rw [decide_eq_false h]
    refine Ev.step (fun k => by rw [tollbarref4_FlowMay.j0]) ?_
    exact Ev.ite_pos rfl (Ev.now _)
  unfold tollbarref4_FlowMay.f
  refine Ev.bind (ref_CapsMay_ev V ls caps) ?_
  by_cases hc : CapsOk V ls caps
  · refine Ev.ite_pos (decide_eq_true hc) ?_
    refine Ev.bind (ref_Within_ev caps f hx) ?_
    by_cases hw : Win caps f
    · refine Ev.ite_pos (decide_eq_true hw) ?_
      refine Ev.call (ref_Vertex_eq _ _ _) ?_
      by_cases hs : 0 ≤ s ∧ s < V
      · refine Ev.ite_pos (decide_eq_true hs) ?_
        refine Ev.call (ref_Vertex_eq _ _ _) ?_
        by_cases ht : 0 ≤ t ∧ t < V
        · refine Ev.ite_pos (decide_eq_true ht) ?_
          by_cases ne : s = t
          · refine Ev.ite_pos ne ?_
            exact no (fun g => g.ne ne)
          · refine Ev.ite_neg ne ?_
            refine Ev.bind (ref_Gain_ev V ls f (Fine.of hc hw) s) ?_
            by_cases hg : gain (net V ls) (rd f) s < 0
            · rw [decide_eq_true hg]
              exact no (fun g => by have := g.pos; omega)
            · rw [decide_eq_false hg]
              refine Ev.step (fun k => by rw [tollbarref4_FlowMay.j0]) ?_
              refine Ev.ite_neg (by simp) ?_
              exact refflow_loop V ls caps f s t hc hw hs ht ne (by omega) V.toNat 0 (by omega) (by omega) (fun v a b => by omega)
        · refine Ev.ite_neg (by simp only [decide_eq_true_eq]; exact ht) ?_
          exact no (fun g => ht g.vt)
      · refine Ev.ite_neg (by simp only [decide_eq_true_eq]; exact hs) ?_
        exact no (fun g => hs g.vs)
    · refine Ev.ite_neg (by simp only [decide_eq_true_eq]; exact hw) ?_
      exact no (fun g => hw g.w)
  · refine Ev.ite_neg (by simp only [decide_eq_true_eq]; exact hc) ?_
    exact no (fun g => hc g.c)

theorem stream_Left_eq {caps f : List Int} (hl : f.length = caps.length) (hm : f.length ≤ 4096) (hw : ∀ i : Int, 0 ≤ i → i < (f.length : Int) → 0 ≤ rd f i ∧ rd f i ≤ rd caps i) (hc : ∀ i : Int, 0 ≤ i → i < (f.length : Int) → rd caps i ≤ 4611686018427387904) {k : Int} (h0 : 0 ≤ k) (h1 : k < 2 * (f.length : Int)) :
    stream_Left.f caps f k = some (room (rd caps) (rd f) k) := by
  unfold stream_Left.f
  have h2 := hw (k / 2) (by omega) (by omega)
  have h3 := hc (k / 2) (by omega) (by omega)
  rw [half h0 (by omega), odd_ h0]
  unfold room
  by_cases h : k % 2 = 1
  · rw [if_pos h, if_pos (by omega), if_pos (by omega), if_pos h]
  · rw [if_neg h, if_pos (by omega), if_pos (by omega), if_pos (by omega), if_neg h, wrap_id (by omega) (by omega)]

theorem ref_room_eq {caps f : List Int} (hl : f.length = caps.length) (hm : f.length ≤ 4096) (hw : ∀ i : Int, 0 ≤ i → i < (f.length : Int) → 0 ≤ rd f i ∧ rd f i ≤ rd caps i) (hc : ∀ i : Int, 0 ≤ i → i < (f.length : Int) → rd caps i ≤ 4611686018427387904) {k : Int} (h0 : 0 ≤ k) (h1 : k < 2 * (f.length : Int)) :
    tollbarref4_room.f caps f k = some (room (rd caps) (rd f) k) := by
  unfold tollbarref4_room.f
  have h2 := hw (k / 2) (by omega) (by omega)
  have h3 := hc (k / 2) (by omega) (by omega)
  rw [half h0 (by omega), odd_ h0]
  unfold room
  by_cases h : k % 2 = 1
  · rw [if_neg (by omega), if_pos (by omega), if_pos (by omega), if_pos h]
  · rw [if_pos (by omega), if_pos (by omega), if_pos (by omega), if_pos (by omega), if_neg h, wrap_id (by omega) (by omega)]

theorem CapsOk.small {V : Int} {ls : List S53} {caps : List Int} (h : CapsOk V ls caps) {i : Int} (h0 : 0 ≤ i) (h1 : i < (caps.length : Int)) : rd caps i ≤ 4611686018427387904 := by
  have h2 := h.le i h0 h1
  have h3 := h.g.cap_le (i := i) h0 (by rw [← h.len]; exact h1)
  omega

theorem left_ok {V : Int} {ls : List S53} {caps f : List Int} (h : CapsOk V ls caps) (w : Win caps f) {k : Int} (h0 : 0 ≤ k) (h1 : k < 2 * (ls.length : Int)) : stream_Left.f caps f k = some (room (rd caps) (rd f) k) := by
  have e1 := w.len
  have e2 := h.len
  have e3 := h.g.m16
  exact stream_Left_eq w.len (by omega) w.le (fun i a b => h.small a (by omega)) h0 (by omega)

theorem ref_room_ok {V : Int} {ls : List S53} {caps f : List Int} (h : CapsOk V ls caps) (w : Win caps f) {k : Int} (h0 : 0 ≤ k) (h1 : k < 2 * (ls.length : Int)) : tollbarref4_room.f caps f k = some (room (rd caps) (rd f) k) := by
  have e1 := w.len
  have e2 := h.len
  have e3 := h.g.m16
  exact ref_room_eq w.len (by omega) w.le (fun i a b => h.small a (by omega)) h0 (by omega)

theorem ref_Room_ev (V : Int) (ls : List S53) (caps f : List Int) (k : Int) (hx : f.length ≤ 17592186044416) :
    Ev (fun r => tollbarref4_Room.f r V ls caps f k) (if CapsOk V ls caps ∧ Win caps f ∧ 0 ≤ k ∧ k < 2 * (ls.length : Int) then (room (rd caps) (rd f) k, 0) else (0, 900)) := by
  unfold tollbarref4_Room.f
  refine Ev.bind (ref_CapsMay_ev V ls caps) ?_
  by_cases hc : CapsOk V ls caps
  · refine Ev.ite_pos (decide_eq_true hc) ?_
    refine Ev.bind (ref_Within_ev caps f hx) ?_
    have hm := hc.g.m16
    by_cases hw : Win caps f
    · refine Ev.ite_pos (decide_eq_true hw) ?_
      by_cases h0 : k < 0
      · refine Ev.ite_pos h0 ?_
        rw [if_neg (fun g => by omega)]
        exact Ev.now _
      · refine Ev.ite_neg h0 ?_
        rw [twice_ (by omega)]
        by_cases h1 : k ≥ 2 * (ls.length : Int)
        · refine Ev.ite_pos h1 ?_
          rw [if_neg (fun g => by omega)]
          exact Ev.now _
        · refine Ev.ite_neg h1 ?_
          refine Ev.call (ref_room_ok hc hw (by omega) (by omega)) ?_
          rw [if_pos ⟨hc, hw, by omega, by omega⟩]
          exact Ev.now _
    · refine Ev.ite_neg (by simp only [decide_eq_true_eq]; exact hw) ?_
      rw [if_neg (fun g => hw g.2.1)]
      exact Ev.now _
  · refine Ev.ite_neg (by simp only [decide_eq_true_eq]; exact hc) ?_
    rw [if_neg (fun g => hc g.1)]
    exact Ev.now _

theorem same_loop (xs ys : List Int) (hl : xs.length = ys.length) (hx : xs.length ≤ 17592186044416) (d : Nat) : ∀ (i : Nat), i ≤ xs.length → xs.length - i = d → (∀ j : Int, 0 ≤ j → j < (i : Int) → rd xs j = rd ys j) →
    Ev (fun k => tollbarref19_SameInts.l0 k xs ys (i : Int)) (decide (xs = ys)) := by
  induction d with
  | zero =>
    intro i hi hd hp
    obtain rfl : i = xs.length := by omega
    refine Ev.step (fun k => by rw [tollbarref19_SameInts.l0]) ?_
    refine Ev.ite_neg (by omega) ?_
    rw [decide_eq_true (rd_ext hl hp)]
    exact Ev.now _
  | succ d ih =>
    intro i hi hd hp
    refine Ev.step (fun k => by rw [tollbarref19_SameInts.l0]) ?_
    refine Ev.ite_pos (by omega) ?_
    refine Ev.ite_pos (by omega) ?_
    refine Ev.ite_pos (by omega) ?_
    by_cases h : rd xs i = rd ys i
    · refine Ev.ite_pos h ?_
      have X := ih (i + 1) (by omega) (by omega) (fun j a b => by
        by_cases e : j = i
        · subst e; exact h
        · exact hp j a (by omega))
      have e3 : wrap64 ((i : Int) + 1) = ((i + 1 : Nat) : Int) := wrap_succ (by omega)
      exact Ev.congr (fun k => by rw [e3]) X
    · refine Ev.ite_neg h ?_
      rw [decide_eq_false (fun e => h (by rw [e]))]
      exact Ev.now _

theorem ref_SameInts_ev (xs ys : List Int) (hx : xs.length ≤ 17592186044416) : Ev (fun k => tollbarref19_SameInts.f k xs ys) (decide (xs = ys)) := by
  unfold tollbarref19_SameInts.f
  by_cases hl : xs.length = ys.length
  · refine Ev.ite_pos (by omega) ?_
    exact same_loop xs ys hl hx xs.length 0 (by omega) (by omega) (fun j a b => by omega)
  · refine Ev.ite_neg (by omega) ?_
    rw [decide_eq_false (fun e => hl (by rw [e]))]
    exact Ev.now _

theorem SameInts_ev (xs ys : List Int) (hx : xs.length ≤ 17592186044416) : Ev (fun k => tollbarlaw0_SameInts.f k xs ys) (decide (xs = ys)) := by
  unfold tollbarlaw0_SameInts.f
  exact Ev.bind (ref_SameInts_ev xs ys hx) (Ev.now _)

theorem SameInts_self (xs : List Int) (hx : xs.length ≤ 17592186044416) : Ev (fun k => tollbarlaw0_SameInts.f k xs xs) true := by
  have := SameInts_ev xs xs hx
  rwa [decide_eq_true rfl] at this

theorem fine_iff (V : Int) (ls : List S53) (f : List Int) : (CapsOk V ls (ls.map (·.f2)) ∧ Win (ls.map (·.f2)) f) ↔ Fine V ls f := by
  constructor
  · rintro ⟨h, w⟩
    exact Fine.of h w
  · intro h
    have hc : CapsOk V ls (ls.map (·.f2)) := ⟨h.g, by simp, fun i a b => by
      rw [List.length_map] at b
      rw [rd_map_cap ls a b]
      exact ⟨h.g.cap i a b, Int.le_refl _⟩⟩
    refine ⟨hc, by rw [List.length_map]; exact h.len, fun i a b => ?_⟩
    have b2 : i < (ls.length : Int) := by rw [← h.len]; exact b
    rw [rd_map_cap ls a b2]
    exact h.le i a b2

theorem stream_Value_ev (V : Int) (ls : List S53) (f : List Int) (s : Int) (hx : ls.length ≤ 17592186044416) :
    Ev (fun k => stream_Value.f k V ls f s) (if Fine V ls f ∧ 0 ≤ s ∧ s < V then (gain (net V ls) (rd f) s, 0) else (0, 900)) := by
  unfold stream_Value.f
  refine Ev.bind (graph_Caps_ev V ls hx) ?_
  refine Ev.bind (stream_Lies_ev V ls _ f) ?_
  by_cases h : Fine V ls f
  · refine Ev.ite_pos (decide_eq_true ((fine_iff V ls f).2 h)) ?_
    refine Ev.call (graph_Has_eq _ _ _) ?_
    by_cases hs : 0 ≤ s ∧ s < V
    · refine Ev.ite_pos (decide_eq_true hs) ?_
      refine Ev.bind (stream_gains_ev V ls f h) ?_
      refine Ev.ite_pos hs.1 ?_
      refine Ev.ite_pos (by rw [tab_len]; omega) ?_
      rw [if_pos ⟨h, hs⟩, rd_tab hs.1 (by omega)]
      exact Ev.now _
    · refine Ev.ite_neg (by simp only [decide_eq_true_eq]; exact hs) ?_
      rw [if_neg (fun g => hs g.2)]
      exact Ev.now _
  · refine Ev.ite_neg (by simp only [decide_eq_true_eq]; exact fun g => h ((fine_iff V ls f).1 g)) ?_
    rw [if_neg (fun g => h g.1)]
    exact Ev.now _

theorem stream_Room_ev (V : Int) (ls : List S53) (caps f : List Int) (k : Int) :
    Ev (fun r => stream_Room.f r V ls caps f k) (if CapsOk V ls caps ∧ Win caps f ∧ 0 ≤ k ∧ k < 2 * (ls.length : Int) then (room (rd caps) (rd f) k, 0) else (0, 900)) := by
  unfold stream_Room.f
  refine Ev.bind (stream_Lies_ev V ls caps f) ?_
  by_cases h : CapsOk V ls caps ∧ Win caps f
  · refine Ev.ite_pos (decide_eq_true h) ?_
    have hl : f.length = ls.length := by rw [h.2.len, h.1.len]
    have hm := h.1.g.m16
    by_cases h0 : k < 0
    · refine Ev.ite_pos h0 ?_
      rw [if_neg (fun g => by omega)]
      exact Ev.now _
    · refine Ev.ite_neg h0 ?_
      rw [hl, twice_ (by omega)]
      by_cases h1 : k ≥ 2 * (ls.length : Int)
      · refine Ev.ite_pos h1 ?_
        rw [if_neg (fun g => by omega)]
        exact Ev.now _
      · refine Ev.ite_neg h1 ?_
        refine Ev.call (left_ok h.1 h.2 (by omega) (by omega)) ?_
        rw [if_pos ⟨h.1, h.2, by omega, by omega⟩]
        exact Ev.now _
  · refine Ev.ite_neg (by simp only [decide_eq_true_eq]; exact h) ?_
    rw [if_neg (fun g => h ⟨g.1, g.2.1⟩)]
    exact Ev.now _

theorem awake9 : Ev (fun k => tollbarlaw9_awake.f k) true := Ev.of tollbarlaw9_awake.mono (k := 100) (by decide +kernel)

theorem Num_eq9 (x : Int) : tollbarlaw0_Num.f x = some x := rfl

theorem CopyIntsK_eq {xs : List Int} (h : xs.length < 17592186044416) : tollbarlaw0_CopyInts.f xs = some xs := by
  unfold tollbarlaw0_CopyInts.f
  simp only [Option.bind_some]
  rw [if_pos (by simpa using h)]
  rfl

theorem LendInts_eq {xs : List Int} (h : xs.length + 2 < 17592186044416) : tollbarlaw0_LendInts.f xs = some xs := by
  unfold tollbarlaw0_LendInts.f
  rw [CopyIntsK_eq (by omega)]
  simp only [Option.bind_some]
  rw [if_pos h]

theorem KeptInts_ev (xs : List Int) (h : xs.length + 2 < 17592186044416) : Ev (fun k => tollbarlaw0_KeptInts.f k xs xs) true := by
  unfold tollbarlaw0_KeptInts.f
  refine Ev.ite_pos h (Ev.ite_pos rfl ?_)
  refine Ev.bind (SameInts_self xs (by omega)) ?_
  exact Ev.ite_pos rfl (Ev.now _)

theorem own_loop (V : Int) (ls : List S53) (hx : ls.length ≤ 17592186044416) (d : Nat) : ∀ (i : Nat), i ≤ ls.length → ls.length - i = d →
    Ev (fun k => tollbarref4_Own.l0 k ((ls.take i).map (·.f2)) (i : Int) V ls) (ls.map (·.f2)) := by
  induction d with
  | zero =>
    intro i hi hd
    obtain rfl : i = ls.length := by omega
    refine Ev.step (fun k => by rw [tollbarref4_Own.l0]) ?_
    refine Ev.ite_neg (by omega) ?_
    rw [List.take_length]
    exact Ev.now _
  | succ d ih =>
    intro i hi hd
    refine Ev.step (fun k => by rw [tollbarref4_Own.l0]) ?_
    refine Ev.ite_pos (by omega) ?_
    refine Ev.ite_pos (by omega) ?_
    refine Ev.ite_pos (by simp; omega) ?_
    have e4 : (ls.take i).map (·.f2) ++ [(rd_T53 ls (i : Int)).f2] = (ls.take (i + 1)).map (·.f2) := by
      have hl : i < ls.length := by omega
      rw [List.take_succ_eq_append_getElem hl, List.map_append]
      simp only [rd_T53, Int.toNat_natCast, List.getD_eq_getElem?_getD, List.getElem?_eq_getElem hl]
      rfl
    exact Ev.congr (fun k => by rw [wrap_succ (by omega), e4]) (ih (i + 1) (by omega) (by omega))

theorem ref_Own_ev (V : Int) (ls : List S53) (hx : ls.length ≤ 17592186044416) : Ev (fun k => tollbarref4_Own.f k V ls) (ls.map (·.f2)) :=
  own_loop V ls hx ls.length 0 (by omega) (by omega)

theorem ref_Value_ev (V : Int) (ls : List S53) (f : List Int) (s : Int) (hx : ls.length ≤ 17592186044416) (hf : f.length ≤ 17592186044416) :
    Ev (fun k => tollbarref4_Value.f k V ls f s) (if Fine V ls f ∧ 0 ≤ s ∧ s < V then (gain (net V ls) (rd f) s, 0) else (0, 900)) := by
  unfold tollbarref4_Value.f
  refine Ev.bind (ref_GraphMay_ev V ls) ?_
  by_cases hg : GOk V ls
  · refine Ev.ite_pos (decide_eq_true hg) ?_
    refine Ev.bind (ref_Own_ev V ls hx) ?_
    refine Ev.bind (ref_Within_ev _ f hf) ?_
    by_cases hw : Win (ls.map (·.f2)) f
    · have h : Fine V ls f := by
        refine ⟨hg, by rw [hw.len, List.length_map], fun i a b => ?_⟩
        have := hw.le i a (by rw [hw.len, List.length_map]; exact b)
        rw [rd_map_cap ls a b] at this
        exact this
      refine Ev.ite_pos (decide_eq_true hw) ?_
      refine Ev.call (ref_Vertex_eq _ _ _) ?_
      by_cases hs : 0 ≤ s ∧ s < V
      · refine Ev.ite_pos (decide_eq_true hs) ?_
        rw [if_pos ⟨h, hs⟩]
        exact Ev.bind (ref_Gain_ev V ls f h s) (Ev.now _)
      · refine Ev.ite_neg (by simp only [decide_eq_true_eq]; exact hs) ?_
        rw [if_neg (fun g => hs g.2)]
        exact Ev.now _
    · refine Ev.ite_neg (by simp only [decide_eq_true_eq]; exact hw) ?_
      rw [if_neg (fun g => hw ((fine_iff V ls f).2 g.1).2)]
      exact Ev.now _
  · refine Ev.ite_neg (by simp only [decide_eq_true_eq]; exact hg) ?_
    rw [if_neg (fun g => hg g.1.g)]
    exact Ev.now _

theorem Flows (V : Int) (ls : List S53) (caps f : List Int) (s t k : Int) (hl : ls.length ≤ 17592186044416) (hc : caps.length + 2 < 17592186044416) (hf : f.length + 2 < 17592186044416) : Ev (fun r => tollbarlaw9_Flows.f r V ls caps f s t k) true := by
  unfold tollbarlaw9_Flows.f
  refine Ev.call (LendInts_eq hc) (Ev.call (LendInts_eq hf) ?_)
  refine Ev.bind (stream_Value_ev V ls f s hl) (Ev.bind (ref_Value_ev V ls f s hl (by omega)) ?_)
  refine Ev.bind (stream_Room_ev V ls caps f k) (Ev.bind (ref_Room_ev V ls caps f k (by omega)) ?_)
  refine Ev.bind awake9 (Ev.ite_pos rfl ?_)
  refine Ev.bind (stream_May_ev V ls caps f s t) (Ev.bind (ref_FlowMay_ev V ls caps f s t (by omega)) ?_)
  refine Ev.ite_pos (by simp) (Ev.ite_pos rfl (Ev.call (Num_eq9 _) (Ev.ite_pos rfl (Ev.ite_pos rfl (Ev.call (Num_eq9 _) (Ev.ite_pos rfl ?_))))))
  refine Ev.bind (KeptInts_ev caps hc) (Ev.ite_pos rfl ?_)
  exact Ev.bind (KeptInts_ev f hf) (Ev.now _)

end Go.Proofs.Ytcfbfghdkgakmaa.Q
end
