/- Texts of this claim, one behind the other: QStreamMoves. -/
import Derived.Test.YtcfbfghdkgakmaaA43f2ae
import Derived.Test.YtcfbfghdkgakmaaA8397e0
import Derived.Test.YtcfbfghdkgakmaaAf517e1
import Derived.Test.YtcfbfghdkgakmaaA6adecb
import Derived.Test.YtcfbfghdkgakmaaA58122c
import Derived.Test.YtcfbfghdkgakmaaAbd2740
import Derived.Test.YtcfbfghdkgakmaaA91f4ec
import Derived.Test.YtcfbfghdkgakmaaA92eded
section
/- What the law StreamMoves leans on, and the law itself on what its printed walk tells: plain. -/
namespace Go.Proofs.Ytcfbfghdkgakmaa.Q
open Go.RowKit Go.Proofs.YtcfbfghdkgakmaaW.PrintWords Go.Proofs.YtcfbfghdkgakmaaW.PrintMore Go.Proofs.Ytcfbfghdkgakmaa.PAll Go.Proofs.Ytcfbfghdkgakmaa.Plain
set_option linter.unusedVariables false
set_option linter.unusedSimpArgs false
attribute [local instance] Classical.propDecidable
/-! ### caps, lists within -/

theorem S_prefix {f : Int → Int} {n m : Nat} (h : ∀ i : Int, 0 ≤ i → i < (m : Int) → 0 ≤ f i) (hn : n ≤ m) : S n f ≤ S m f := by
  induction m with
  | zero => obtain rfl : n = 0 := by omega
            exact Int.le_refl _
  | succ m ih =>
    by_cases e : n = m + 1
    · subst e; exact Int.le_refl _
    · have h1 := ih (fun i a b => h i a (by omega)) (by omega)
      have h2 := h (m : Int) (by omega) (by omega)
      simp only [S]
      omega

theorem rate_Is_eq (x : Int) : rate_Is.f x = some (decide (0 ≤ x ∧ x ≤ 4611686018427387904)) := by
  unfold rate_Is.f
  by_cases h : x ≥ 0
  · rw [if_pos h]; congr 1; simp; omega
  · rw [if_neg h]; congr 1; simp; omega

def SumOk (xs : List Int) : Prop := (∀ i : Int, 0 ≤ i → i < (xs.length : Int) → 0 ≤ rd xs i) ∧ S xs.length (rd xs) ≤ 4611686018427387904

theorem sum_loop (xs : List Int) (hx : xs.length ≤ 4611686018427387904) (d : Nat) : ∀ (i : Nat), i ≤ xs.length → xs.length - i = d → (∀ j : Int, 0 ≤ j → j < (i : Int) → 0 ≤ rd xs j) → S i (rd xs) ≤ 4611686018427387904 →
    Ev (fun k => rate_Sum.l0 k (S i (rd xs)) xs (xs.length : Int) (i : Int)) (if SumOk xs then (S xs.length (rd xs), true) else (0, false)) := by
  induction d with
  | zero =>
    intro i hi hd hp hs
    obtain rfl : i = xs.length := by omega
    refine Ev.step (fun k => by rw [rate_Sum.l0]) ?_
    refine Ev.ite_neg (by omega) ?_
    rw [if_pos ⟨hp, hs⟩]
    exact Ev.now _
  | succ d ih =>
    intro i hi hd hp hs
    have h0 : 0 ≤ S i (rd xs) := S_nonneg hp
    refine Ev.step (fun k => by rw [rate_Sum.l0]) ?_
    refine Ev.ite_pos (by omega) ?_
    refine Ev.ite_pos (by omega) ?_
    refine Ev.ite_pos (by omega) ?_
    refine Ev.call (rate_Is_eq _) ?_
    by_cases hr : 0 ≤ rd xs i ∧ rd xs i ≤ 4611686018427387904
    · refine Ev.ite_pos (decide_eq_true hr) ?_
      by_cases hm : rd xs i > 4611686018427387904 - S i (rd xs)
      · refine Ev.ite_pos (by rw [wrap_id (by omega) (by omega)]; exact hm) ?_
        rw [if_neg]
        · exact Ev.now _
        · intro ho
          have := S_prefix (n := i + 1) ho.1 (by omega)
          simp only [S] at this
          have := ho.2
          omega
      · refine Ev.ite_neg (by rw [wrap_id (by omega) (by omega)]; exact hm) ?_
        have e2 : wrap64 (S i (rd xs) + rd xs i) = S (i + 1) (rd xs) := by rw [wrap_id (by omega) (by omega)]; rfl
        have e3 : wrap64 ((i : Int) + 1) = ((i + 1 : Nat) : Int) := wrap_succ (by omega)
        refine Ev.congr (fun k => by rw [e2, e3]) (ih (i + 1) (by omega) (by omega) ?_ ?_)
        · intro j a b
          by_cases e : j = i
          · subst e; exact hr.1
          · exact hp j a (by omega)
        · simp only [S]; omega
    · refine Ev.ite_neg (by simp only [decide_eq_true_eq]; exact hr) ?_
      rw [if_neg]
      · exact Ev.now _
      · intro ho
        have h1 := ho.1 i (by omega) (by omega)
        have := S_one_le ho.1 (k := (i : Int)) (by omega) (by omega)
        have := ho.2
        exact hr ⟨h1, by omega⟩

theorem rate_Sum_ev (xs : List Int) (hx : xs.length ≤ 4611686018427387904) : Ev (fun k => rate_Sum.f k xs) (if SumOk xs then (S xs.length (rd xs), true) else (0, false)) :=
  sum_loop xs hx xs.length 0 (by omega) (by omega) (fun j a b => by omega) (by simp [S])

def lA (ls : List S53) (i : Int) : Int := (rd_T53 ls i).f0

def lB (ls : List S53) (i : Int) : Int := (rd_T53 ls i).f1

def lC (ls : List S53) (i : Int) : Int := (rd_T53 ls i).f2

def net (V : Int) (ls : List S53) : Net := { V := V.toNat, m := ls.length, a := lA ls, b := lB ls }

structure GOk (V : Int) (ls : List S53) : Prop where
  v2 : 2 ≤ V
  v8 : V ≤ 8
  m16 : ls.length ≤ 16
  ends : (net V ls).ok
  cap : ∀ i : Int, 0 ≤ i → i < (ls.length : Int) → 0 ≤ lC ls i
  sum : S ls.length (lC ls) ≤ 4611686018427387904

theorem net_V {V : Int} {ls : List S53} (h : 0 ≤ V) : ((net V ls).V : Int) = V := by simp only [net]; omega

theorem GOk.end_ {V : Int} {ls : List S53} (h : GOk V ls) {i : Int} (h0 : 0 ≤ i) (h1 : i < (ls.length : Int)) : (0 ≤ lA ls i ∧ lA ls i < V) ∧ (0 ≤ lB ls i ∧ lB ls i < V) ∧ lA ls i ≠ lB ls i := by
  have := h.ends.h i h0 h1
  have e := net_V (V := V) (ls := ls) (by have := h.v2; omega)
  rw [e] at this
  exact this

theorem GOk.cap_le {V : Int} {ls : List S53} (h : GOk V ls) {i : Int} (h0 : 0 ≤ i) (h1 : i < (ls.length : Int)) : lC ls i ≤ 4611686018427387904 := by
  have := S_one_le h.cap h0 h1
  have := h.sum
  omega

theorem rd_map_cap (ls : List S53) {i : Int} (h0 : 0 ≤ i) (h1 : i < (ls.length : Int)) : rd (ls.map (·.f2)) i = lC ls i := by
  unfold rd lC rd_T53
  have hl : i.toNat < ls.length := by omega
  simp only [List.getD_eq_getElem?_getD, List.getElem?_map, List.getElem?_eq_getElem hl]
  rfl

theorem caps_loop (V : Int) (ls : List S53) (hx : ls.length ≤ 17592186044416) (d : Nat) : ∀ (i : Nat), i ≤ ls.length → ls.length - i = d →
    Ev (fun k => graph_Caps.l0 k ((ls.take i).map (·.f2)) ls (ls.length : Int) (i : Int)) (ls.map (·.f2)) := by
  induction d with
  | zero =>
    intro i hi hd
    obtain rfl : i = ls.length := by omega
    refine Ev.step (fun k => by rw [graph_Caps.l0]) ?_
    refine Ev.ite_neg (by omega) ?_
    rw [List.take_length]
    exact Ev.now _
  | succ d ih =>
    intro i hi hd
    refine Ev.step (fun k => by rw [graph_Caps.l0]) ?_
    refine Ev.ite_pos (by omega) ?_
    refine Ev.ite_pos (by omega) ?_
    refine Ev.ite_pos (by omega) ?_
    refine Ev.ite_pos (by simp; omega) ?_
    have e3 : wrap64 ((i : Int) + 1) = ((i + 1 : Nat) : Int) := wrap_succ (by omega)
    have e4 : (ls.take i).map (·.f2) ++ [(rd_T53 ls (i : Int)).f2] = (ls.take (i + 1)).map (·.f2) := by
      have hl : i < ls.length := by omega
      rw [List.take_succ_eq_append_getElem hl, List.map_append]
      simp only [rd_T53, Int.toNat_natCast, List.getD_eq_getElem?_getD, List.getElem?_eq_getElem hl]
      rfl
    exact Ev.congr (fun k => by rw [e3, e4]) (ih (i + 1) (by omega) (by omega))

theorem graph_Caps_ev (V : Int) (ls : List S53) (hx : ls.length ≤ 17592186044416) : Ev (fun k => graph_Caps.f k V ls) (ls.map (·.f2)) :=
  caps_loop V ls hx ls.length 0 (by omega) (by omega)

theorem graph_Has_eq (V : Int) (ls : List S53) (v : Int) : graph_Has.f V ls v = some (decide (0 ≤ v ∧ v < V)) := by
  unfold graph_Has.f
  by_cases h : v ≥ 0
  · rw [if_pos h]; congr 1; simp; omega
  · rw [if_neg h]; congr 1; simp; omega

theorem ref_Vertex_eq (V : Int) (ls : List S53) (v : Int) : tollbarref4_Vertex.f V ls v = some (decide (0 ≤ v ∧ v < V)) := by
  unfold tollbarref4_Vertex.f
  by_cases h : v ≥ 0
  · rw [if_pos h]; congr 1; simp; omega
  · rw [if_neg h]; congr 1; simp; omega

theorem caps_sum (ls : List S53) : SumOk (ls.map (·.f2)) ↔ (∀ i : Int, 0 ≤ i → i < (ls.length : Int) → 0 ≤ lC ls i) ∧ S ls.length (lC ls) ≤ 4611686018427387904 := by
  have e : S (ls.map (·.f2)).length (rd (ls.map (·.f2))) = S ls.length (lC ls) := by
    rw [List.length_map]
    exact S_congr (fun i a b => rd_map_cap ls a b)
  unfold SumOk
  rw [e, List.length_map]
  constructor
  · rintro ⟨h1, h2⟩
    exact ⟨fun i a b => by rw [← rd_map_cap ls a b]; exact h1 i a b, h2⟩
  · rintro ⟨h1, h2⟩
    exact ⟨fun i a b => by rw [rd_map_cap ls a b]; exact h1 i a b, h2⟩

/-- link i is fine -/
def LinkOk (V : Int) (ls : List S53) (i : Int) : Prop := (0 ≤ lA ls i ∧ lA ls i < V) ∧ (0 ≤ lB ls i ∧ lB ls i < V) ∧ lA ls i ≠ lB ls i

theorem gok_iff (V : Int) (ls : List S53) : GOk V ls ↔ 2 ≤ V ∧ V ≤ 8 ∧ ls.length ≤ 16 ∧ (∀ i : Int, 0 ≤ i → i < (ls.length : Int) → LinkOk V ls i) ∧ (∀ i : Int, 0 ≤ i → i < (ls.length : Int) → 0 ≤ lC ls i) ∧ S ls.length (lC ls) ≤ 4611686018427387904 := by
  constructor
  · intro h
    exact ⟨h.v2, h.v8, h.m16, fun i a b => h.end_ a b, h.cap, h.sum⟩
  · rintro ⟨h1, h2, h3, h4, h5, h6⟩
    refine ⟨h1, h2, h3, ⟨fun i a b => ?_⟩, h5, h6⟩
    rw [net_V (by omega)]
    exact h4 i a b

theorem may_loop (V : Int) (ls : List S53) (hv : 2 ≤ V ∧ V ≤ 8) (hm : ls.length ≤ 16) (d : Nat) : ∀ (i : Nat), i ≤ ls.length → ls.length - i = d → (∀ j : Int, 0 ≤ j → j < (i : Int) → LinkOk V ls j) →
    Ev (fun k => graph_May.l0 k ls (ls.length : Int) (i : Int) V ls) (decide (GOk V ls)) := by
  induction d with
  | zero =>
    intro i hi hd hp
    obtain rfl : i = ls.length := by omega
    refine Ev.step (fun k => by rw [graph_May.l0]) ?_
    refine Ev.ite_neg (by omega) ?_
    refine Ev.bind (graph_Caps_ev V ls (by omega)) ?_
    refine Ev.bind (rate_Sum_ev _ (by rw [List.length_map]; omega)) ?_
    have : (if SumOk (ls.map (·.f2)) then (S (ls.map (·.f2)).length (rd (ls.map (·.f2))), true) else ((0 : Int), false)).2 = decide (GOk V ls) := by
      by_cases hs : SumOk (ls.map (·.f2))
      · rw [if_pos hs, decide_eq_true]
        rw [gok_iff]
        have := (caps_sum ls).1 hs
        exact ⟨hv.1, hv.2, hm, hp, this.1, this.2⟩
      · rw [if_neg hs, decide_eq_false]
        rw [gok_iff]
        rintro ⟨_, _, _, _, h5, h6⟩
        exact hs ((caps_sum ls).2 ⟨h5, h6⟩)
    rw [this]
    exact Ev.now _
  | succ d ih =>
    intro i hi hd hp
    have no : ¬ LinkOk V ls i → ¬ GOk V ls := fun h g => h (((gok_iff V ls).1 g).2.2.2.1 i (by omega) (by omega))
    refine Ev.step (fun k => by rw [graph_May.l0]) ?_
    refine Ev.ite_pos (by omega) ?_
    refine Ev.ite_pos (by omega) ?_
    refine Ev.ite_pos (by omega) ?_
    refine Ev.call (graph_Has_eq _ _ _) ?_
    by_cases ha : 0 ≤ lA ls i ∧ lA ls i < V
    · refine Ev.ite_pos (decide_eq_true ha) ?_
      refine Ev.call (graph_Has_eq _ _ _) ?_
      by_cases hb : 0 ≤ lB ls i ∧ lB ls i < V
      · refine Ev.ite_pos (decide_eq_true hb) ?_
        by_cases he : lA ls i = lB ls i
        · refine Ev.ite_pos he ?_
          rw [decide_eq_false (no (fun h => h.2.2 he))]
          exact Ev.now _
        · refine Ev.ite_neg he ?_
          have e3 : wrap64 ((i : Int) + 1) = ((i + 1 : Nat) : Int) := wrap_succ (by omega)
          refine Ev.congr (fun k => by rw [e3]) (ih (i + 1) (by omega) (by omega) ?_)
          intro j a b
          by_cases e : j = i
          · subst e; exact ⟨ha, hb, he⟩
          · exact hp j a (by omega)
      · refine Ev.ite_neg (by simp only [decide_eq_true_eq]; exact hb) ?_
        rw [decide_eq_false (no (fun h => hb h.2.1))]
        exact Ev.now _
    · refine Ev.ite_neg (by simp only [decide_eq_true_eq]; exact ha) ?_
      rw [decide_eq_false (no (fun h => ha h.1))]
      exact Ev.now _

theorem graph_May_ev (V : Int) (ls : List S53) : Ev (fun k => graph_May.f k V ls) (decide (GOk V ls)) := by
  have no : ¬ (2 ≤ V ∧ V ≤ 8 ∧ ls.length ≤ 16) → Ev (fun k => graph_May.j0 k true V ls) (decide (GOk V ls)) := by
    intro h
    rw [decide_eq_false (fun g => h ⟨g.v2, g.v8, g.m16⟩)]
    refine Ev.step (fun k => by rw [graph_May.j0]) ?_
    exact Ev.ite_pos rfl (Ev.now _)
  unfold graph_May.f
  by_cases h1 : V < 2
  · exact Ev.ite_pos h1 (no (by omega))
  · refine Ev.ite_neg h1 ?_
    by_cases h2 : V > 8
    · exact Ev.ite_pos h2 (no (by omega))
    · refine Ev.ite_neg h2 ?_
      by_cases h3 : (ls.length : Int) > 16
      · rw [decide_eq_true h3]; exact no (by omega)
      · rw [decide_eq_false h3]
        refine Ev.step (fun k => by rw [graph_May.j0]) ?_
        refine Ev.ite_neg (by simp) ?_
        exact may_loop V ls (by omega) (by omega) ls.length 0 (by omega) (by omega) (fun j a b => by omega)

theorem refmay_loop (V : Int) (ls : List S53) (hv : 2 ≤ V ∧ V ≤ 8) (hm : ls.length ≤ 16) (d : Nat) : ∀ (i : Nat), i ≤ ls.length → ls.length - i = d → (∀ j : Int, 0 ≤ j → j < (i : Int) → LinkOk V ls j ∧ 0 ≤ lC ls j) → S i (lC ls) ≤ 4611686018427387904 →
    Ev (fun k => tollbarref4_GraphMay.l0 k (S i (lC ls)) (i : Int) V ls) (decide (GOk V ls)) := by
  induction d with
  | zero =>
    intro i hi hd hp hs
    obtain rfl : i = ls.length := by omega
    refine Ev.step (fun k => by rw [tollbarref4_GraphMay.l0]) ?_
    refine Ev.ite_neg (by omega) ?_
    rw [decide_eq_true ((gok_iff V ls).2 ⟨hv.1, hv.2, hm, fun j a b => (hp j a b).1, fun j a b => (hp j a b).2, hs⟩)]
    exact Ev.now _
  | succ d ih =>
    intro i hi hd hp hs
    have h0 : 0 ≤ S i (lC ls) := S_nonneg (fun j a b => (hp j a b).2)
    have no : ¬ LinkOk V ls i → ¬ GOk V ls := fun h g => h (((gok_iff V ls).1 g).2.2.2.1 i (by omega) (by omega))
    refine Ev.step (fun k => by rw [tollbarref4_GraphMay.l0]) ?_
    refine Ev.ite_pos (by omega) ?_
    refine Ev.ite_pos (by omega) ?_
    refine Ev.call (ref_Vertex_eq _ _ _) ?_
    by_cases ha : 0 ≤ lA ls i ∧ lA ls i < V
    · refine Ev.ite_pos (decide_eq_true ha) ?_
      refine Ev.call (ref_Vertex_eq _ _ _) ?_
      by_cases hb : 0 ≤ lB ls i ∧ lB ls i < V
      · refine Ev.ite_pos (decide_eq_true hb) ?_
        by_cases he : lA ls i = lB ls i
        · refine Ev.ite_pos he ?_
          rw [decide_eq_false (no (fun h => h.2.2 he))]
          exact Ev.now _
        · refine Ev.ite_neg he ?_
          by_cases hc : lC ls i < 0
          · refine Ev.ite_pos hc ?_
            rw [decide_eq_false (fun g => by have := g.cap i (by omega) (by omega); omega)]
            exact Ev.now _
          · refine Ev.ite_neg hc ?_
            by_cases hm2 : lC ls i > 4611686018427387904 - S i (lC ls)
            · refine Ev.ite_pos (by rw [wrap_id (by omega) (by omega)]; exact hm2) ?_
              rw [decide_eq_false (fun g => by
                have := S_prefix (n := i + 1) g.cap (by omega)
                simp only [S] at this
                have := g.sum
                omega)]
              exact Ev.now _
            · refine Ev.ite_neg (by rw [wrap_id (by omega) (by omega)]; exact hm2) ?_
              have X := ih (i + 1) (by omega) (by omega) (fun j a b => by
                by_cases e : j = i
                · subst e; exact ⟨⟨ha, hb, he⟩, by omega⟩
                · exact hp j a (by omega)) (by simp only [S]; omega)
              have e2 : wrap64 (S i (lC ls) + lC ls i) = S (i + 1) (lC ls) := by rw [wrap_id (by omega) (by omega)]; rfl
              have e3 : wrap64 ((i : Int) + 1) = ((i + 1 : Nat) : Int) := wrap_succ (by omega)
              exact Ev.congr (fun k => by rw [← e2, ← e3]; rfl) X
      · refine Ev.ite_neg (by simp only [decide_eq_true_eq]; exact hb) ?_
        rw [decide_eq_false (no (fun h => hb h.2.1))]
        exact Ev.now _
    · refine Ev.ite_neg (by simp only [decide_eq_true_eq]; exact ha) ?_
      rw [decide_eq_false (no (fun h => ha h.1))]
      exact Ev.now _

theorem ref_GraphMay_ev (V : Int) (ls : List S53) : Ev (fun k => tollbarref4_GraphMay.f k V ls) (decide (GOk V ls)) := by
  have no : ¬ (2 ≤ V ∧ V ≤ 8 ∧ ls.length ≤ 16) → Ev (fun k => tollbarref4_GraphMay.j0 k true V ls) (decide (GOk V ls)) := by
    intro h
    rw [decide_eq_false (fun g => h ⟨g.v2, g.v8, g.m16⟩)]
    refine Ev.step (fun k => by rw [tollbarref4_GraphMay.j0]) ?_
    exact Ev.ite_pos rfl (Ev.now _)
  unfold tollbarref4_GraphMay.f
  by_cases h1 : V < 2
  · exact Ev.ite_pos h1 (no (by omega))
  · refine Ev.ite_neg h1 ?_
    by_cases h2 : V > 8
    · exact Ev.ite_pos h2 (no (by omega))
    · refine Ev.ite_neg h2 ?_
      by_cases h3 : (ls.length : Int) > 16
      · rw [decide_eq_true h3]; exact no (by omega)
      · rw [decide_eq_false h3]
        refine Ev.step (fun k => by rw [tollbarref4_GraphMay.j0]) ?_
        refine Ev.ite_neg (by simp) ?_
        exact refmay_loop V ls (by omega) (by omega) ls.length 0 (by omega) (by omega) (fun j a b => by omega) (by simp [S])

theorem half {k : Int} (h0 : 0 ≤ k) (h1 : k < 9223372036854775807) : wrap64 (Int.tdiv k 2) = k / 2 := by
  rw [Int.tdiv_eq_ediv_of_nonneg h0, wrap_id (by omega) (by omega)]

theorem odd_ {k : Int} (h0 : 0 ≤ k) : Int.tmod k 2 = k % 2 := Int.tmod_eq_emod_of_nonneg h0

theorem twice_ {ls : List S53} (hm : ls.length ≤ 4096) : wrap64 (2 * (ls.length : Int)) = 2 * (ls.length : Int) := wrap_id (by omega) (by omega)

structure CapsOk (V : Int) (ls : List S53) (caps : List Int) : Prop where
  g : GOk V ls
  len : caps.length = ls.length
  le : ∀ i : Int, 0 ≤ i → i < (caps.length : Int) → 0 ≤ rd caps i ∧ rd caps i ≤ lC ls i

structure Win (caps f : List Int) : Prop where
  len : f.length = caps.length
  le : ∀ i : Int, 0 ≤ i → i < (f.length : Int) → 0 ≤ rd f i ∧ rd f i ≤ rd caps i

theorem takes_loop (V : Int) (ls : List S53) (caps : List Int) (hg : GOk V ls) (hl : caps.length = ls.length) (d : Nat) : ∀ (i : Nat), i ≤ caps.length → caps.length - i = d → (∀ j : Int, 0 ≤ j → j < (i : Int) → 0 ≤ rd caps j ∧ rd caps j ≤ lC ls j) →
    Ev (fun k => graph_Takes.l0 k caps (caps.length : Int) (i : Int) V ls) (decide (CapsOk V ls caps)) := by
  induction d with
  | zero =>
    intro i hi hd hp
    obtain rfl : i = caps.length := by omega
    refine Ev.step (fun k => by rw [graph_Takes.l0]) ?_
    refine Ev.ite_neg (by omega) ?_
    rw [decide_eq_true (⟨hg, hl, hp⟩ : CapsOk V ls caps)]
    exact Ev.now _
  | succ d ih =>
    intro i hi hd hp
    have hm := hg.m16
    refine Ev.step (fun k => by rw [graph_Takes.l0]) ?_
    refine Ev.ite_pos (by omega) ?_
    refine Ev.ite_pos (by omega) ?_
    refine Ev.ite_pos (by omega) ?_
    by_cases h1 : rd caps i < 0
    · refine Ev.ite_pos h1 ?_
      rw [decide_eq_false (fun h : CapsOk V ls caps => by have := h.le i (by omega) (by omega); omega)]
      exact Ev.now _
    · refine Ev.ite_neg h1 ?_
      refine Ev.ite_pos (by omega) ?_
      by_cases h2 : rd caps i > lC ls i
      · refine Ev.ite_pos h2 ?_
        rw [decide_eq_false (fun h : CapsOk V ls caps => by have := h.le i (by omega) (by omega); omega)]
        exact Ev.now _
      · refine Ev.ite_neg h2 ?_
        have X := ih (i + 1) (by omega) (by omega) (fun j a b => by
          by_cases e : j = i
          · subst e; omega
          · exact hp j a (by omega))
        have e3 : wrap64 ((i : Int) + 1) = ((i + 1 : Nat) : Int) := wrap_succ (by omega)
        exact Ev.congr (fun k => by rw [e3]) X

theorem graph_Takes_ev (V : Int) (ls : List S53) (caps : List Int) : Ev (fun k => graph_Takes.f k V ls caps) (decide (CapsOk V ls caps)) := by
  have no : ¬ CapsOk V ls caps → Ev (fun k => graph_Takes.j0 k caps true V ls) (decide (CapsOk V ls caps)) := by
    intro h
    rw [decide_eq_false h]
    refine Ev.step (fun k => by rw [graph_Takes.j0]) ?_
    exact Ev.ite_pos rfl (Ev.now _)
  unfold graph_Takes.f
  refine Ev.bind (graph_May_ev V ls) ?_
  by_cases h : GOk V ls
  · refine Ev.ite_pos (decide_eq_true h) ?_
    by_cases hl : caps.length = ls.length
    · have e : ((caps.length : Int) != (ls.length : Int)) = false := by simp [hl]
      rw [e]
      refine Ev.step (fun k => by rw [graph_Takes.j0]) ?_
      refine Ev.ite_neg (by simp) ?_
      exact takes_loop V ls caps h hl caps.length 0 (by omega) (by omega) (fun j a b => by omega)
    · have e : ((caps.length : Int) != (ls.length : Int)) = true := by simp; omega
      rw [e]
      exact no (fun g => hl g.len)
  · refine Ev.ite_neg (by simp only [decide_eq_true_eq]; exact h) ?_
    exact no (fun g => h g.g)

theorem capsmay_loop (V : Int) (ls : List S53) (caps : List Int) (hg : GOk V ls) (hl : caps.length = ls.length) (d : Nat) : ∀ (i : Nat), i ≤ caps.length → caps.length - i = d → (∀ j : Int, 0 ≤ j → j < (i : Int) → 0 ≤ rd caps j ∧ rd caps j ≤ lC ls j) →
    Ev (fun k => tollbarref4_CapsMay.l0 k caps (i : Int) V ls) (decide (CapsOk V ls caps)) := by
  induction d with
  | zero =>
    intro i hi hd hp
    obtain rfl : i = caps.length := by omega
    refine Ev.step (fun k => by rw [tollbarref4_CapsMay.l0]) ?_
    refine Ev.ite_neg (by omega) ?_
    rw [decide_eq_true (⟨hg, hl, hp⟩ : CapsOk V ls caps)]
    exact Ev.now _
  | succ d ih =>
    intro i hi hd hp
    have hm := hg.m16
    refine Ev.step (fun k => by rw [tollbarref4_CapsMay.l0]) ?_
    refine Ev.ite_pos (by omega) ?_
    refine Ev.ite_pos (by omega) ?_
    by_cases h1 : rd caps i < 0
    · refine Ev.ite_pos h1 ?_
      rw [decide_eq_false (fun h : CapsOk V ls caps => by have := h.le i (by omega) (by omega); omega)]
      exact Ev.now _
    · refine Ev.ite_neg h1 ?_
      refine Ev.ite_pos (by omega) ?_
      by_cases h2 : rd caps i > lC ls i
      · refine Ev.ite_pos h2 ?_
        rw [decide_eq_false (fun h : CapsOk V ls caps => by have := h.le i (by omega) (by omega); omega)]
        exact Ev.now _
      · refine Ev.ite_neg h2 ?_
        have X := ih (i + 1) (by omega) (by omega) (fun j a b => by
          by_cases e : j = i
          · subst e; omega
          · exact hp j a (by omega))
        have e3 : wrap64 ((i : Int) + 1) = ((i + 1 : Nat) : Int) := wrap_succ (by omega)
        exact Ev.congr (fun k => by rw [e3]) X

theorem ref_CapsMay_ev (V : Int) (ls : List S53) (caps : List Int) : Ev (fun k => tollbarref4_CapsMay.f k V ls caps) (decide (CapsOk V ls caps)) := by
  have no : ¬ CapsOk V ls caps → Ev (fun k => tollbarref4_CapsMay.j0 k caps true V ls) (decide (CapsOk V ls caps)) := by
    intro h
    rw [decide_eq_false h]
    refine Ev.step (fun k => by rw [tollbarref4_CapsMay.j0]) ?_
    exact Ev.ite_pos rfl (Ev.now _)
  unfold tollbarref4_CapsMay.f
  refine Ev.bind (ref_GraphMay_ev V ls) ?_
  by_cases h : GOk V ls
  · refine Ev.ite_pos (decide_eq_true h) ?_
    by_cases hl : caps.length = ls.length
    · have e : ((caps.length : Int) != (ls.length : Int)) = false := by simp [hl]
      rw [e]
      refine Ev.step (fun k => by rw [tollbarref4_CapsMay.j0]) ?_
      refine Ev.ite_neg (by simp) ?_
      exact capsmay_loop V ls caps h hl caps.length 0 (by omega) (by omega) (fun j a b => by omega)
    · have e : ((caps.length : Int) != (ls.length : Int)) = true := by simp; omega
      rw [e]
      exact no (fun g => hl g.len)
  · refine Ev.ite_neg (by simp only [decide_eq_true_eq]; exact h) ?_
    exact no (fun g => h g.g)

theorem within_loop (caps f : List Int) (hl : f.length = caps.length) (hx : f.length ≤ 17592186044416) (d : Nat) : ∀ (i : Nat), i ≤ f.length → f.length - i = d → (∀ j : Int, 0 ≤ j → j < (i : Int) → 0 ≤ rd f j ∧ rd f j ≤ rd caps j) →
    Ev (fun k => tollbarref4_Within.l0 k caps f (i : Int)) (decide (Win caps f)) := by
  induction d with
  | zero =>
    intro i hi hd hp
    obtain rfl : i = f.length := by omega
    refine Ev.step (fun k => by rw [tollbarref4_Within.l0]) ?_
    refine Ev.ite_neg (by omega) ?_
    rw [decide_eq_true (⟨hl, hp⟩ : Win caps f)]
    exact Ev.now _
  | succ d ih =>
    intro i hi hd hp
    refine Ev.step (fun k => by rw [tollbarref4_Within.l0]) ?_
    refine Ev.ite_pos (by omega) ?_
    refine Ev.ite_pos (by omega) ?_
    by_cases h1 : rd f i < 0
    · refine Ev.ite_pos h1 ?_
      rw [decide_eq_false (fun h : Win caps f => by have := h.le i (by omega) (by omega); omega)]
      exact Ev.now _
    · refine Ev.ite_neg h1 ?_
      refine Ev.ite_pos (by omega) ?_
      by_cases h2 : rd f i > rd caps i
      · refine Ev.ite_pos h2 ?_
        rw [decide_eq_false (fun h : Win caps f => by have := h.le i (by omega) (by omega); omega)]
        exact Ev.now _
      · refine Ev.ite_neg h2 ?_
        have X := ih (i + 1) (by omega) (by omega) (fun j a b => by
          by_cases e : j = i
          · subst e; omega
          · exact hp j a (by omega))
        have e3 : wrap64 ((i : Int) + 1) = ((i + 1 : Nat) : Int) := wrap_succ (by omega)
        exact Ev.congr (fun k => by rw [e3]) X

theorem ref_Within_ev (caps f : List Int) (hx : f.length ≤ 17592186044416) : Ev (fun k => tollbarref4_Within.f k caps f) (decide (Win caps f)) := by
  unfold tollbarref4_Within.f
  by_cases hl : f.length = caps.length
  · refine Ev.ite_pos (by omega) ?_
    exact within_loop caps f hl hx f.length 0 (by omega) (by omega) (fun j a b => by omega)
  · refine Ev.ite_neg (by omega) ?_
    rw [decide_eq_false (fun h : Win caps f => hl h.len)]
    exact Ev.now _

theorem lies_loop (caps f : List Int) (hl : f.length = caps.length) (hx : f.length ≤ 17592186044416) (d : Nat) : ∀ (i : Nat), i ≤ f.length → f.length - i = d → (∀ j : Int, 0 ≤ j → j < (i : Int) → 0 ≤ rd f j ∧ rd f j ≤ rd caps j) →
    Ev (fun k => stream_Lies.l0 k caps f (f.length : Int) (i : Int)) (decide (Win caps f)) := by
  induction d with
  | zero =>
    intro i hi hd hp
    obtain rfl : i = f.length := by omega
    refine Ev.step (fun k => by rw [stream_Lies.l0]) ?_
    refine Ev.ite_neg (by omega) ?_
    rw [decide_eq_true (⟨hl, hp⟩ : Win caps f)]
    exact Ev.now _
  | succ d ih =>
    intro i hi hd hp
    refine Ev.step (fun k => by rw [stream_Lies.l0]) ?_
    refine Ev.ite_pos (by omega) ?_
    refine Ev.ite_pos (by omega) ?_
    refine Ev.ite_pos (by omega) ?_
    by_cases h1 : rd f i < 0
    · refine Ev.ite_pos h1 ?_
      rw [decide_eq_false (fun h : Win caps f => by have := h.le i (by omega) (by omega); omega)]
      exact Ev.now _
    · refine Ev.ite_neg h1 ?_
      refine Ev.ite_pos (by omega) ?_
      by_cases h2 : rd f i > rd caps i
      · refine Ev.ite_pos h2 ?_
        rw [decide_eq_false (fun h : Win caps f => by have := h.le i (by omega) (by omega); omega)]
        exact Ev.now _
      · refine Ev.ite_neg h2 ?_
        have X := ih (i + 1) (by omega) (by omega) (fun j a b => by
          by_cases e : j = i
          · subst e; omega
          · exact hp j a (by omega))
        have e3 : wrap64 ((i : Int) + 1) = ((i + 1 : Nat) : Int) := wrap_succ (by omega)
        exact Ev.congr (fun k => by rw [e3]) X

theorem stream_Lies_ev (V : Int) (ls : List S53) (caps f : List Int) : Ev (fun k => stream_Lies.f k V ls caps f) (decide (CapsOk V ls caps ∧ Win caps f)) := by
  have no : ¬ (CapsOk V ls caps ∧ Win caps f) → Ev (fun k => stream_Lies.j0 k caps f true) (decide (CapsOk V ls caps ∧ Win caps f)) := by
    intro h
    rw [decide_eq_false h]
    refine Ev.step (fun k => by rw [stream_Lies.j0]) ?_
    exact Ev.ite_pos rfl (Ev.now _)
  unfold stream_Lies.f
  refine Ev.bind (graph_Takes_ev V ls caps) ?_
  by_cases h : CapsOk V ls caps
  · refine Ev.ite_pos (decide_eq_true h) ?_
    by_cases hl : f.length = caps.length
    · have e : ((f.length : Int) != (caps.length : Int)) = false := by simp [hl]
      rw [e]
      refine Ev.step (fun k => by rw [stream_Lies.j0]) ?_
      refine Ev.ite_neg (by simp) ?_
      have e2 : (CapsOk V ls caps ∧ Win caps f) = Win caps f := by simp [h]
      simp only [e2]
      exact lies_loop caps f hl (by have := h.g.m16; have := h.len; omega) f.length 0 (by omega) (by omega) (fun j a b => by omega)
    · have e : ((f.length : Int) != (caps.length : Int)) = true := by simp; omega
      rw [e]
      exact no (fun g => hl g.2.len)
  · refine Ev.ite_neg (by simp only [decide_eq_true_eq]; exact h) ?_
    exact no (fun g => h g.1)

/-- a list within a graph's own caps -/
structure Fine (V : Int) (ls : List S53) (f : List Int) : Prop where
  g : GOk V ls
  len : f.length = ls.length
  le : ∀ i : Int, 0 ≤ i → i < (ls.length : Int) → 0 ≤ rd f i ∧ rd f i ≤ lC ls i

theorem Fine.of {V : Int} {ls : List S53} {caps f : List Int} (h : CapsOk V ls caps) (w : Win caps f) : Fine V ls f :=
  ⟨h.g, by rw [w.len, h.len], fun i a b => by
    have h1 := w.le i a (by rw [w.len, h.len]; exact b)
    have h2 := h.le i a (by rw [h.len]; exact b)
    omega⟩

theorem stream_Left_eq {caps f : List Int} (hl : f.length = caps.length) (hm : f.length ≤ 4096) (hw : ∀ i : Int, 0 ≤ i → i < (f.length : Int) → 0 ≤ rd f i ∧ rd f i ≤ rd caps i) (hc : ∀ i : Int, 0 ≤ i → i < (f.length : Int) → rd caps i ≤ 4611686018427387904) {k : Int} (h0 : 0 ≤ k) (h1 : k < 2 * (f.length : Int)) :
    stream_Left.f caps f k = some (room (rd caps) (rd f) k) := by
  unfold stream_Left.f
  have h2 := hw (k / 2) (by omega) (by omega)
  have h3 := hc (k / 2) (by omega) (by omega)
  rw [half h0 (by omega), odd_ h0]
  unfold room
  by_cases h : k % 2 = 1
  · rw [if_pos h, if_pos (by omega), if_pos (by omega), if_pos h]
  · rw [if_neg h, if_pos (by omega), if_pos (by omega), if_pos (by omega), if_neg h, wrap_id (by omega) (by omega)]

theorem ref_room_eq {caps f : List Int} (hl : f.length = caps.length) (hm : f.length ≤ 4096) (hw : ∀ i : Int, 0 ≤ i → i < (f.length : Int) → 0 ≤ rd f i ∧ rd f i ≤ rd caps i) (hc : ∀ i : Int, 0 ≤ i → i < (f.length : Int) → rd caps i ≤ 4611686018427387904) {k : Int} (h0 : 0 ≤ k) (h1 : k < 2 * (f.length : Int)) :
    tollbarref4_room.f caps f k = some (room (rd caps) (rd f) k) := by
  unfold tollbarref4_room.f
  have h2 := hw (k / 2) (by omega) (by omega)
  have h3 := hc (k / 2) (by omega) (by omega)
  rw [half h0 (by omega), odd_ h0]
  unfold room
  by_cases h : k % 2 = 1
  · rw [if_neg (by omega), if_pos (by omega), if_pos (by omega), if_pos h]
  · rw [if_pos (by omega), if_pos (by omega), if_pos (by omega), if_pos (by omega), if_neg h, wrap_id (by omega) (by omega)]

theorem CapsOk.small {V : Int} {ls : List S53} {caps : List Int} (h : CapsOk V ls caps) {i : Int} (h0 : 0 ≤ i) (h1 : i < (caps.length : Int)) : rd caps i ≤ 4611686018427387904 := by
  have h2 := h.le i h0 h1
  have h3 := h.g.cap_le (i := i) h0 (by rw [← h.len]; exact h1)
  omega

theorem left_ok {V : Int} {ls : List S53} {caps f : List Int} (h : CapsOk V ls caps) (w : Win caps f) {k : Int} (h0 : 0 ≤ k) (h1 : k < 2 * (ls.length : Int)) : stream_Left.f caps f k = some (room (rd caps) (rd f) k) := by
  have e1 := w.len
  have e2 := h.len
  have e3 := h.g.m16
  exact stream_Left_eq w.len (by omega) w.le (fun i a b => h.small a (by omega)) h0 (by omega)

theorem ref_room_ok {V : Int} {ls : List S53} {caps f : List Int} (h : CapsOk V ls caps) (w : Win caps f) {k : Int} (h0 : 0 ≤ k) (h1 : k < 2 * (ls.length : Int)) : tollbarref4_room.f caps f k = some (room (rd caps) (rd f) k) := by
  have e1 := w.len
  have e2 := h.len
  have e3 := h.g.m16
  exact ref_room_eq w.len (by omega) w.le (fun i a b => h.small a (by omega)) h0 (by omega)

theorem same_loop (xs ys : List Int) (hl : xs.length = ys.length) (hx : xs.length ≤ 17592186044416) (d : Nat) : ∀ (i : Nat), i ≤ xs.length → xs.length - i = d → (∀ j : Int, 0 ≤ j → j < (i : Int) → rd xs j = rd ys j) →
    Ev (fun k => tollbarref19_SameInts.l0 k xs ys (i : Int)) (decide (xs = ys)) := by
  induction d with
  | zero =>
    intro i hi hd hp
    obtain rfl : i = xs.length := by omega
    refine Ev.step (fun k => by rw [tollbarref19_SameInts.l0]) ?_
    refine Ev.ite_neg (by omega) ?_
    rw [decide_eq_true (rd_ext hl hp)]
    exact Ev.now _
  | succ d ih =>
    intro i hi hd hp
    refine Ev.step (fun k => by rw [tollbarref19_SameInts.l0]) ?_
    refine Ev.ite_pos (by omega) ?_
    refine Ev.ite_pos (by omega) ?_
    refine Ev.ite_pos (by omega) ?_
    by_cases h : rd xs i = rd ys i
    · refine Ev.ite_pos h ?_
      have X := ih (i + 1) (by omega) (by omega) (fun j a b => by
        by_cases e : j = i
        · subst e; exact h
        · exact hp j a (by omega))
      have e3 : wrap64 ((i : Int) + 1) = ((i + 1 : Nat) : Int) := wrap_succ (by omega)
      exact Ev.congr (fun k => by rw [e3]) X
    · refine Ev.ite_neg h ?_
      rw [decide_eq_false (fun e => h (by rw [e]))]
      exact Ev.now _

theorem ref_SameInts_ev (xs ys : List Int) (hx : xs.length ≤ 17592186044416) : Ev (fun k => tollbarref19_SameInts.f k xs ys) (decide (xs = ys)) := by
  unfold tollbarref19_SameInts.f
  by_cases hl : xs.length = ys.length
  · refine Ev.ite_pos (by omega) ?_
    exact same_loop xs ys hl hx xs.length 0 (by omega) (by omega) (fun j a b => by omega)
  · refine Ev.ite_neg (by omega) ?_
    rw [decide_eq_false (fun e => hl (by rw [e]))]
    exact Ev.now _

theorem SameInts_ev (xs ys : List Int) (hx : xs.length ≤ 17592186044416) : Ev (fun k => tollbarlaw0_SameInts.f k xs ys) (decide (xs = ys)) := by
  unfold tollbarlaw0_SameInts.f
  exact Ev.bind (ref_SameInts_ev xs ys hx) (Ev.now _)

theorem SameInts_self (xs : List Int) (hx : xs.length ≤ 17592186044416) : Ev (fun k => tollbarlaw0_SameInts.f k xs xs) true := by
  have := SameInts_ev xs xs hx
  rwa [decide_eq_true rfl] at this

theorem spoil_loop (n : Nat) (hx : n ≤ 17592186044416) (d : Nat) : ∀ (i : Nat) (xs : List Int), xs.length = n → i ≤ n → n - i = d →
    ∃ r, Ev (fun k => tollbarlaw0_SpoilInts.l0 k xs (i : Int)) r := by
  induction d with
  | zero =>
    intro i xs hl hi hd
    refine ⟨xs, Ev.step (fun k => by rw [tollbarlaw0_SpoilInts.l0]) ?_⟩
    refine Ev.ite_neg (by omega) ?_
    exact Ev.now _
  | succ d ih =>
    intro i xs hl hi hd
    obtain ⟨r, X⟩ := ih (i + 1) (xs.set ((i : Int) : Int).toNat (wrap64 ((-9) - (Int.tmod (rd xs (i : Int)) 1000)))) (by rw [List.length_set]; exact hl) (by omega) (by omega)
    refine ⟨r, Ev.step (fun k => by rw [tollbarlaw0_SpoilInts.l0]) ?_⟩
    refine Ev.ite_pos (by omega) ?_
    refine Ev.ite_pos (by omega) ?_
    have e3 : wrap64 ((i : Int) + 1) = ((i + 1 : Nat) : Int) := wrap_succ (by omega)
    exact Ev.congr (fun k => by rw [e3]) X

theorem SpoilInts_ev (xs : List Int) (hx : xs.length ≤ 17592186044416) : ∃ r, Ev (fun k => tollbarlaw0_SpoilInts.f k xs) r := spoil_loop xs.length hx xs.length 0 xs rfl (by omega) (by omega)

def pushA (f : List Int) (by_ k : Int) : List Int := f.set (k / 2).toNat (rd f (k / 2) + (if k % 2 = 1 then -by_ else by_))

def mvL (caps : List Int) (by_ : Int) : List Int → List Int → Option (List Int)
  | f, [] => some f
  | f, k :: ks => if room (rd caps) (rd f) k < by_ then none else mvL caps by_ (pushA f by_ k) ks

structure MoveOk (V : Int) (ls : List S53) (caps f : List Int) (by_ : Int) (ks : List Int) : Prop where
  c : CapsOk V ls caps
  w : Win caps f
  rate : 0 ≤ by_ ∧ by_ ≤ 4611686018427387904
  few : ks.length ≤ 64
  arcs : ∀ i : Int, 0 ≤ i → i < (ks.length : Int) → 0 ≤ rd ks i ∧ rd ks i < 2 * (ls.length : Int)

noncomputable def moveR (V : Int) (ls : List S53) (caps f : List Int) (by_ : Int) (ks : List Int) : List Int × Int :=
  if MoveOk V ls caps f by_ ks then (match mvL caps by_ f ks with | some g => (g, 0) | none => ([], 901)) else ([], 900)

theorem pushA_len (f : List Int) (by_ k : Int) : (pushA f by_ k).length = f.length := by unfold pushA; rw [List.length_set]

theorem rd_pushA {f : List Int} {by_ k : Int} (h0 : 0 ≤ k) (h1 : k < 2 * (f.length : Int)) {i : Int} (i0 : 0 ≤ i) :
    rd (pushA f by_ k) i = if i = k / 2 then rd f i + (if k % 2 = 1 then -by_ else by_) else rd f i := by
  unfold pushA
  rw [rd_set (by omega) (by omega) i0]
  by_cases e : i = k / 2
  · rw [if_pos e, if_pos e, e]
  · rw [if_neg e, if_neg e]

theorem Win.push {caps f : List Int} (w : Win caps f) {by_ k : Int} (h0 : 0 ≤ k) (h1 : k < 2 * (f.length : Int)) (hb : 0 ≤ by_) (hr : by_ ≤ room (rd caps) (rd f) k) : Win caps (pushA f by_ k) := by
  refine ⟨by rw [pushA_len]; exact w.len, fun i a b => ?_⟩
  rw [pushA_len] at b
  rw [rd_pushA h0 h1 a]
  have h2 := w.le i a b
  by_cases e : i = k / 2
  · rw [if_pos e]
    unfold room at hr
    by_cases o : k % 2 = 1
    · rw [if_pos o] at hr ⊢; rw [← e] at hr; omega
    · rw [if_neg o] at hr ⊢; rw [← e] at hr; omega
  · rw [if_neg e]; exact h2

theorem drop_rd {xs : List Int} {i : Nat} (h : i < xs.length) : xs.drop i = rd xs (i : Int) :: xs.drop (i + 1) := by
  rw [List.drop_eq_getElem_cons h]
  simp only [rd, Int.toNat_natCast, List.getD_eq_getElem?_getD, List.getElem?_eq_getElem h]
  rfl

theorem stream_move_eq {f : List Int} {by_ k : Int} (hm : f.length ≤ 4096) (h0 : 0 ≤ k) (h1 : k < 2 * (f.length : Int)) (hb : 0 ≤ by_ ∧ by_ ≤ 4611686018427387904) (hf : 0 ≤ rd f (k / 2) ∧ rd f (k / 2) ≤ 4611686018427387904)
    (hr : k % 2 = 1 → by_ ≤ rd f (k / 2)) (hr2 : ¬ k % 2 = 1 → rd f (k / 2) + by_ ≤ 4611686018427387904) : stream_move.f f by_ k = some (pushA f by_ k) := by
  unfold stream_move.f pushA
  rw [half h0 (by omega), odd_ h0]
  by_cases o : k % 2 = 1
  · have := hr o
    rw [if_pos o, if_pos (by omega), if_pos (by omega), if_pos o, wrap_id (x := -by_) (by omega) (by omega), wrap_id (by omega) (by omega)]
  · have := hr2 o
    rw [if_neg o, if_pos (by omega), if_pos (by omega), if_neg o, wrap_id (by omega) (by omega)]

theorem Clone_eq {xs : List Int} (h : xs.length < 17592186044416) : slices_Clone_int_int.f xs = some xs := by
  unfold slices_Clone_int_int.f
  simp only [Option.bind_some]
  rw [if_pos (by simpa using h)]
  rfl

theorem room_cases {caps f : List Int} {k by_ : Int} (hr : by_ ≤ room (rd caps) (rd f) k) : (k % 2 = 1 → by_ ≤ rd f (k / 2)) ∧ (¬ k % 2 = 1 → rd f (k / 2) + by_ ≤ rd caps (k / 2)) := by
  unfold room at hr
  constructor
  · intro o; rwa [if_pos o] at hr
  · intro o; rw [if_neg o] at hr; omega

theorem move_go {V : Int} {ls : List S53} {caps : List Int} (c : CapsOk V ls caps) {by_ : Int} (hb : 0 ≤ by_ ∧ by_ ≤ 4611686018427387904) (ks : List Int) (hk : ks.length ≤ 64) (ha : ∀ i : Int, 0 ≤ i → i < (ks.length : Int) → 0 ≤ rd ks i ∧ rd ks i < 2 * (ls.length : Int)) (d : Nat) :
    ∀ (i : Nat) (f : List Int), Win caps f → i ≤ ks.length → ks.length - i = d →
    Ev (fun k => stream_Move.l1 k caps by_ f ks (ks.length : Int) (i : Int)) (match mvL caps by_ f (ks.drop i) with | some g => (g, 0) | none => ([], 901)) := by
  have hm := c.g.m16
  have hcl := c.len
  induction d with
  | zero =>
    intro i f w hi hd
    obtain rfl : i = ks.length := by omega
    refine Ev.step (fun k => by rw [stream_Move.l1]) ?_
    refine Ev.ite_neg (by omega) ?_
    rw [List.drop_length]
    exact Ev.now _
  | succ d ih =>
    intro i f w hi hd
    have hw := w.len
    have h1 := ha (i : Int) (by omega) (by omega)
    have h2 := w.le (rd ks (i : Int) / 2) (by omega) (by omega)
    have h3 := c.small (i := rd ks (i : Int) / 2) (by omega) (by omega)
    refine Ev.step (fun k => by rw [stream_Move.l1]) ?_
    refine Ev.ite_pos (by omega) ?_
    refine Ev.ite_pos (by omega) ?_
    refine Ev.ite_pos (by omega) ?_
    refine Ev.call (left_ok c w h1.1 h1.2) ?_
    rw [drop_rd (show i < ks.length by omega)]
    unfold mvL
    by_cases hr : room (rd caps) (rd f) (rd ks (i : Int)) < by_
    · refine Ev.ite_pos hr ?_
      rw [if_pos hr]
      exact Ev.now _
    · refine Ev.ite_neg hr ?_
      rw [if_neg hr]
      have h4 := room_cases (caps := caps) (f := f) (k := rd ks (i : Int)) (by_ := by_) (by omega)
      have X := ih (i + 1) (pushA f by_ (rd ks (i : Int))) (w.push h1.1 (by omega) hb.1 (by omega)) (by omega) (by omega)
      refine Ev.call (stream_move_eq (by omega) h1.1 (by omega) hb (by omega) h4.1 (fun o => by have := h4.2 o; omega)) ?_
      have e3 : wrap64 ((i : Int) + 1) = ((i + 1 : Nat) : Int) := wrap_succ (by omega)
      exact Ev.congr (fun k => by rw [e3]) X

theorem move_check {V : Int} {ls : List S53} {caps f : List Int} (c : CapsOk V ls caps) (w : Win caps f) {by_ : Int} (hb : 0 ≤ by_ ∧ by_ ≤ 4611686018427387904) (ks : List Int) (hk : ks.length ≤ 64) (d : Nat) :
    ∀ (i : Nat), i ≤ ks.length → ks.length - i = d → (∀ j : Int, 0 ≤ j → j < (i : Int) → 0 ≤ rd ks j ∧ rd ks j < 2 * (ls.length : Int)) →
    Ev (fun k => stream_Move.l0 k caps f by_ ks ks (ks.length : Int) (i : Int)) (moveR V ls caps f by_ ks) := by
  have hm := c.g.m16
  have hl : f.length = ls.length := by rw [w.len, c.len]
  induction d with
  | zero =>
    intro i hi hd hp
    obtain rfl : i = ks.length := by omega
    refine Ev.step (fun k => by rw [stream_Move.l0]) ?_
    refine Ev.ite_neg (by omega) ?_
    refine Ev.call (Clone_eq (by omega)) ?_
    unfold moveR
    rw [if_pos ⟨c, w, hb, hk, hp⟩]
    exact move_go c hb ks hk hp ks.length 0 f w (by omega) (by omega)
  | succ d ih =>
    intro i hi hd hp
    refine Ev.step (fun k => by rw [stream_Move.l0]) ?_
    refine Ev.ite_pos (by omega) ?_
    refine Ev.ite_pos (by omega) ?_
    refine Ev.ite_pos (by omega) ?_
    by_cases h0 : rd ks (i : Int) < 0
    · refine Ev.ite_pos h0 ?_
      unfold moveR
      rw [if_neg (fun g => by have := g.arcs i (by omega) (by omega); omega)]
      exact Ev.now _
    · refine Ev.ite_neg h0 ?_
      rw [hl, twice_ (by omega)]
      by_cases h1 : rd ks (i : Int) ≥ 2 * (ls.length : Int)
      · refine Ev.ite_pos h1 ?_
        unfold moveR
        rw [if_neg (fun g => by have := g.arcs i (by omega) (by omega); omega)]
        exact Ev.now _
      · refine Ev.ite_neg h1 ?_
        have X := ih (i + 1) (by omega) (by omega) (fun j a b => by
          by_cases e : j = i
          · subst e; omega
          · exact hp j a (by omega))
        have e3 : wrap64 ((i : Int) + 1) = ((i + 1 : Nat) : Int) := wrap_succ (by omega)
        exact Ev.congr (fun k => by rw [e3]) X

theorem stream_Move_ev (V : Int) (ls : List S53) (caps f : List Int) (by_ : Int) (ks : List Int) : Ev (fun k => stream_Move.f k V ls caps f by_ ks) (moveR V ls caps f by_ ks) := by
  have no : ¬ MoveOk V ls caps f by_ ks → Ev (fun k => stream_Move.j0 k caps f by_ ks true) (moveR V ls caps f by_ ks) := by
    intro h
    unfold moveR
    rw [if_neg h]
    refine Ev.step (fun k => by rw [stream_Move.j0]) ?_
    exact Ev.ite_pos rfl (Ev.now _)
  unfold stream_Move.f
  refine Ev.bind (stream_Lies_ev V ls caps f) ?_
  by_cases h : CapsOk V ls caps ∧ Win caps f
  · refine Ev.ite_pos (decide_eq_true h) ?_
    refine Ev.call (rate_Is_eq _) ?_
    by_cases hb : 0 ≤ by_ ∧ by_ ≤ 4611686018427387904
    · refine Ev.ite_pos (decide_eq_true hb) ?_
      by_cases hk : (ks.length : Int) > 64
      · rw [decide_eq_true hk]
        exact no (fun g => by have := g.few; omega)
      · rw [decide_eq_false hk]
        refine Ev.step (fun k => by rw [stream_Move.j0]) ?_
        refine Ev.ite_neg (by simp) ?_
        exact move_check h.1 h.2 hb ks (by omega) ks.length 0 (by omega) (by omega) (fun j a b => by omega)
    · refine Ev.ite_neg (by simp only [decide_eq_true_eq]; exact hb) ?_
      exact no (fun g => hb g.rate)
  · refine Ev.ite_neg (by simp only [decide_eq_true_eq]; exact h) ?_
    exact no (fun g => h ⟨g.c, g.w⟩)

theorem awake9 : Ev (fun k => tollbarlaw9_awake.f k) true := Ev.of tollbarlaw9_awake.mono (k := 100) (by decide +kernel)

theorem Num_eq9 (x : Int) : tollbarlaw0_Num.f x = some x := rfl

theorem CopyIntsK_eq {xs : List Int} (h : xs.length < 17592186044416) : tollbarlaw0_CopyInts.f xs = some xs := by
  unfold tollbarlaw0_CopyInts.f
  simp only [Option.bind_some]
  rw [if_pos (by simpa using h)]
  rfl

theorem LendInts_eq {xs : List Int} (h : xs.length + 2 < 17592186044416) : tollbarlaw0_LendInts.f xs = some xs := by
  unfold tollbarlaw0_LendInts.f
  rw [CopyIntsK_eq (by omega)]
  simp only [Option.bind_some]
  rw [if_pos h]

theorem KeptInts_ev (xs : List Int) (h : xs.length + 2 < 17592186044416) : Ev (fun k => tollbarlaw0_KeptInts.f k xs xs) true := by
  unfold tollbarlaw0_KeptInts.f
  refine Ev.ite_pos h (Ev.ite_pos rfl ?_)
  refine Ev.bind (SameInts_self xs (by omega)) ?_
  exact Ev.ite_pos rfl (Ev.now _)

theorem ref_Rate_eq (x : Int) : tollbarref1_Rate.f x = some (decide (0 ≤ x ∧ x ≤ 4611686018427387904)) := by
  unfold tollbarref1_Rate.f
  by_cases h : x ≥ 0
  · rw [if_pos h]
    congr 1
    by_cases g : x ≤ 4611686018427387904
    · rw [decide_eq_true g, decide_eq_true ⟨h, g⟩]
    · rw [decide_eq_false g, decide_eq_false (fun a => g a.2)]
  · rw [if_neg h, decide_eq_false (fun a => h a.1)]

theorem refmove_go {V : Int} {ls : List S53} {caps : List Int} (c : CapsOk V ls caps) {by_ : Int} (hb : 0 ≤ by_ ∧ by_ ≤ 4611686018427387904) (ks : List Int) (hk : ks.length ≤ 64) (ha : ∀ i : Int, 0 ≤ i → i < (ks.length : Int) → 0 ≤ rd ks i ∧ rd ks i < 2 * (ls.length : Int)) (d : Nat) :
    ∀ (i : Nat) (f : List Int), Win caps f → i ≤ ks.length → ks.length - i = d →
    Ev (fun k => tollbarref4_Move.l1 k caps by_ ks f (i : Int)) (match mvL caps by_ f (ks.drop i) with | some g => (g, 0) | none => ([], 901)) := by
  have hm := c.g.m16
  have hcl := c.len
  induction d with
  | zero =>
    intro i f w hi hd
    obtain rfl : i = ks.length := by omega
    refine Ev.step (fun k => by rw [tollbarref4_Move.l1]) ?_
    refine Ev.ite_neg (by omega) ?_
    rw [List.drop_length]
    exact Ev.now _
  | succ d ih =>
    intro i f w hi hd
    have hw := w.len
    have h1 := ha (i : Int) (by omega) (by omega)
    have h2 := w.le (rd ks (i : Int) / 2) (by omega) (by omega)
    have h3 := c.small (i := rd ks (i : Int) / 2) (by omega) (by omega)
    refine Ev.step (fun k => by rw [tollbarref4_Move.l1]) ?_
    refine Ev.ite_pos (by omega) (Ev.ite_pos (by omega) ?_)
    refine Ev.call (ref_room_ok c w h1.1 h1.2) ?_
    rw [drop_rd (show i < ks.length by omega)]
    unfold mvL
    by_cases hr : room (rd caps) (rd f) (rd ks (i : Int)) < by_
    · refine Ev.ite_pos hr ?_
      rw [if_pos hr]
      exact Ev.now _
    · refine Ev.ite_neg hr ?_
      rw [if_neg hr]
      have h4 := room_cases (caps := caps) (f := f) (k := rd ks (i : Int)) (by_ := by_) (by omega)
      have X := ih (i + 1) (pushA f by_ (rd ks (i : Int))) (w.push h1.1 (by omega) hb.1 (by omega)) (by omega) (by omega)
      rw [half h1.1 (by omega), odd_ h1.1]
      by_cases o : rd ks (i : Int) % 2 = 1
      · have h5 := h4.1 o
        have e5 : f.set (rd ks (i : Int) / 2).toNat (rd f (rd ks (i : Int) / 2) - by_) = pushA f by_ (rd ks (i : Int)) := by unfold pushA; rw [if_pos o, Int.sub_eq_add_neg]
        refine Ev.ite_neg (by omega) (Ev.ite_pos (by omega) (Ev.ite_pos (by omega) ?_))
        exact Ev.congr (fun k => by rw [wrap_succ (by omega), wrap_id (x := rd f (rd ks (i : Int) / 2) - by_) (by omega) (by omega), e5]) X
      · have h5 := h4.2 o
        have e5 : f.set (rd ks (i : Int) / 2).toNat (rd f (rd ks (i : Int) / 2) + by_) = pushA f by_ (rd ks (i : Int)) := by unfold pushA; rw [if_neg o]
        refine Ev.ite_pos (by omega) (Ev.ite_pos (by omega) (Ev.ite_pos (by omega) ?_))
        exact Ev.congr (fun k => by rw [wrap_succ (by omega), wrap_id (x := rd f (rd ks (i : Int) / 2) + by_) (by omega) (by omega), e5]) X

theorem refmove_check {V : Int} {ls : List S53} {caps f : List Int} (c : CapsOk V ls caps) (w : Win caps f) {by_ : Int} (hb : 0 ≤ by_ ∧ by_ ≤ 4611686018427387904) (ks : List Int) (hk : ks.length ≤ 64) (d : Nat) :
    ∀ (i : Nat), i ≤ ks.length → ks.length - i = d → (∀ j : Int, 0 ≤ j → j < (i : Int) → 0 ≤ rd ks j ∧ rd ks j < 2 * (ls.length : Int)) →
    Ev (fun k => tollbarref4_Move.l0 k caps f by_ ks (i : Int) V ls) (moveR V ls caps f by_ ks) := by
  have hm := c.g.m16
  have hl : f.length = ls.length := by rw [w.len, c.len]
  induction d with
  | zero =>
    intro i hi hd hp
    obtain rfl : i = ks.length := by omega
    refine Ev.step (fun k => by rw [tollbarref4_Move.l0]) ?_
    refine Ev.ite_neg (by omega) ?_
    refine Ev.call rfl ?_
    refine Ev.ite_pos (by simp; omega) ?_
    unfold moveR
    rw [if_pos ⟨c, w, hb, hk, hp⟩]
    exact refmove_go c hb ks hk hp ks.length 0 f w (by omega) (by omega)
  | succ d ih =>
    intro i hi hd hp
    refine Ev.step (fun k => by rw [tollbarref4_Move.l0]) ?_
    refine Ev.ite_pos (by omega) ?_
    refine Ev.ite_pos (by omega) ?_
    by_cases h0 : rd ks (i : Int) < 0
    · refine Ev.ite_pos h0 ?_
      unfold moveR
      rw [if_neg (fun g => by have := g.arcs i (by omega) (by omega); omega)]
      exact Ev.now _
    · refine Ev.ite_neg h0 ?_
      rw [twice_ (by omega)]
      by_cases h1 : rd ks (i : Int) ≥ 2 * (ls.length : Int)
      · refine Ev.ite_pos h1 ?_
        unfold moveR
        rw [if_neg (fun g => by have := g.arcs i (by omega) (by omega); omega)]
        exact Ev.now _
      · refine Ev.ite_neg h1 ?_
        have X := ih (i + 1) (by omega) (by omega) (fun j a b => by
          by_cases e : j = i
          · subst e; omega
          · exact hp j a (by omega))
        exact Ev.congr (fun k => by rw [wrap_succ (by omega)]) X

theorem ref_Move_ev (V : Int) (ls : List S53) (caps f : List Int) (by_ : Int) (ks : List Int) (hf : f.length ≤ 17592186044416) : Ev (fun k => tollbarref4_Move.f k V ls caps f by_ ks) (moveR V ls caps f by_ ks) := by
  have no : ¬ MoveOk V ls caps f by_ ks → Ev (fun k => tollbarref4_Move.j0 k caps f by_ ks true V ls) (moveR V ls caps f by_ ks) := by
    intro h
    unfold moveR
    rw [if_neg h]
    refine Ev.step (fun k => by rw [tollbarref4_Move.j0]) ?_
    exact Ev.ite_pos rfl (Ev.now _)
  unfold tollbarref4_Move.f
  refine Ev.bind (ref_CapsMay_ev V ls caps) ?_
  by_cases hc : CapsOk V ls caps
  · refine Ev.ite_pos (decide_eq_true hc) ?_
    refine Ev.bind (ref_Within_ev caps f hf) ?_
    by_cases hw : Win caps f
    · refine Ev.ite_pos (decide_eq_true hw) ?_
      refine Ev.call (ref_Rate_eq _) ?_
      by_cases hb : 0 ≤ by_ ∧ by_ ≤ 4611686018427387904
      · refine Ev.ite_pos (decide_eq_true hb) ?_
        by_cases hk : (ks.length : Int) > 64
        · rw [decide_eq_true hk]
          exact no (fun g => by have := g.few; omega)
        · rw [decide_eq_false hk]
          refine Ev.step (fun k => by rw [tollbarref4_Move.j0]) ?_
          refine Ev.ite_neg (by simp) ?_
          exact refmove_check hc hw hb ks (by omega) ks.length 0 (by omega) (by omega) (fun j a b => by omega)
      · refine Ev.ite_neg (by simp only [decide_eq_true_eq]; exact hb) ?_
        exact no (fun g => hb g.rate)
    · refine Ev.ite_neg (by simp only [decide_eq_true_eq]; exact hw) ?_
      exact no (fun g => hw g.w)
  · refine Ev.ite_neg (by simp only [decide_eq_true_eq]; exact hc) ?_
    exact no (fun g => hc g.c)

theorem mvL_len {caps : List Int} {by_ : Int} (ks : List Int) : ∀ (f g : List Int), mvL caps by_ f ks = some g → g.length = f.length := by
  induction ks with
  | nil => intro f g h; unfold mvL at h; rw [Option.some.inj h]
  | cons k ks ih =>
    intro f g h
    unfold mvL at h
    by_cases c : room (rd caps) (rd f) k < by_
    · rw [if_pos c] at h; cases h
    · rw [if_neg c] at h; rw [ih _ _ h, pushA_len]

theorem moveR_len (V : Int) (ls : List S53) (caps f : List Int) (by_ : Int) (ks : List Int) : (moveR V ls caps f by_ ks).1.length ≤ f.length := by
  unfold moveR
  split
  · split
    · rename_i g hg
      rw [mvL_len ks f g hg]; exact Nat.le_refl _
    · exact Nat.zero_le _
  · exact Nat.zero_le _

theorem StreamMoves (V : Int) (ls : List S53) (caps f : List Int) (by_ : Int) (ks : List Int) (hc : caps.length + 2 < 17592186044416) (hf : f.length + 2 < 17592186044416) (hk : ks.length + 2 < 17592186044416) : Ev (fun r => tollbarlaw9_StreamMoves.f r V ls caps f by_ ks) true := by
  unfold tollbarlaw9_StreamMoves.f
  have hl := moveR_len V ls caps f by_ ks
  refine Ev.call (LendInts_eq hc) (Ev.call (LendInts_eq hf) (Ev.call (LendInts_eq hk) ?_))
  refine Ev.bind (stream_Move_ev V ls caps f by_ ks) (Ev.bind (ref_Move_ev V ls caps f by_ ks (by omega)) ?_)
  refine Ev.bind (SameInts_self _ (by omega)) (Ev.ite_pos rfl ?_)
  refine Ev.call (Num_eq9 _) ?_
  refine Ev.step (fun k => by rw [tollbarlaw9_StreamMoves.j0]) ?_
  refine Ev.ite_neg (by simp) ?_
  obtain ⟨r, R⟩ := SpoilInts_ev (moveR V ls caps f by_ ks).1 (by omega)
  refine Ev.bind R (Ev.bind awake9 (Ev.ite_pos rfl ?_))
  refine Ev.bind (KeptInts_ev caps hc) (Ev.ite_pos rfl ?_)
  refine Ev.bind (KeptInts_ev f hf) (Ev.ite_pos rfl ?_)
  exact Ev.bind (KeptInts_ev ks hk) (Ev.now _)

end Go.Proofs.Ytcfbfghdkgakmaa.Q
end
