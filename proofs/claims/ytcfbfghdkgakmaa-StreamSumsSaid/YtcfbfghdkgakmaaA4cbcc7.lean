/- Texts of this claim, one behind the other: QStreamSums. -/
import Derived.Test.YtcfbfghdkgakmaaA43f2ae
import Derived.Test.YtcfbfghdkgakmaaA5d3639
import Derived.Test.YtcfbfghdkgakmaaAc099e6
import Derived.Test.YtcfbfghdkgakmaaA5d3a29
import Derived.Test.YtcfbfghdkgakmaaAc990f1
section
/- What the law StreamSums leans on, and the law itself on what its printed walk tells: plain. -/
namespace Go.Proofs.Ytcfbfghdkgakmaa.Q
open Go.RowKit Go.Proofs.YtcfbfghdkgakmaaW.PrintWords Go.Proofs.YtcfbfghdkgakmaaW.PrintMore Go.Proofs.Ytcfbfghdkgakmaa.PAll Go.Proofs.Ytcfbfghdkgakmaa.Plain
set_option linter.unusedVariables false
set_option linter.unusedSimpArgs false
attribute [local instance] Classical.propDecidable
/-! ### caps, lists within -/

theorem S_prefix {f : Int → Int} {n m : Nat} (h : ∀ i : Int, 0 ≤ i → i < (m : Int) → 0 ≤ f i) (hn : n ≤ m) : S n f ≤ S m f := by
  induction m with
  | zero => obtain rfl : n = 0 := by omega
            exact Int.le_refl _
  | succ m ih =>
    by_cases e : n = m + 1
    · subst e; exact Int.le_refl _
    · have h1 := ih (fun i a b => h i a (by omega)) (by omega)
      have h2 := h (m : Int) (by omega) (by omega)
      simp only [S]
      omega

theorem rate_Is_eq (x : Int) : rate_Is.f x = some (decide (0 ≤ x ∧ x ≤ 4611686018427387904)) := by
  unfold rate_Is.f
  by_cases h : x ≥ 0
  · rw [if_pos h]; congr 1; simp; omega
  · rw [if_neg h]; congr 1; simp; omega

def SumOk (xs : List Int) : Prop := (∀ i : Int, 0 ≤ i → i < (xs.length : Int) → 0 ≤ rd xs i) ∧ S xs.length (rd xs) ≤ 4611686018427387904

theorem sum_loop (xs : List Int) (hx : xs.length ≤ 4611686018427387904) (d : Nat) : ∀ (i : Nat), i ≤ xs.length → xs.length - i = d → (∀ j : Int, 0 ≤ j → j < (i : Int) → 0 ≤ rd xs j) → S i (rd xs) ≤ 4611686018427387904 →
    Ev (fun k => rate_Sum.l0 k (S i (rd xs)) xs (xs.length : Int) (i : Int)) (if SumOk xs then (S xs.length (rd xs), true) else (0, false)) := by
  induction d with
  | zero =>
    intro i hi hd hp hs
    obtain rfl : i = xs.length := by omega
    refine Ev.step (fun k => by rw [rate_Sum.l0]) ?_
    refine Ev.ite_neg (by omega) ?_
    rw [if_pos ⟨hp, hs⟩]
    exact Ev.now _
  | succ d ih =>
    intro i hi hd hp hs
    have h0 : 0 ≤ S i (rd xs) := S_nonneg hp
    refine Ev.step (fun k => by rw [rate_Sum.l0]) ?_
    refine Ev.ite_pos (by omega) ?_
    refine Ev.ite_pos (by omega) ?_
    refine Ev.ite_pos (by omega) ?_
    refine Ev.call (rate_Is_eq _) ?_
    by_cases hr : 0 ≤ rd xs i ∧ rd xs i ≤ 4611686018427387904
    · refine Ev.ite_pos (decide_eq_true hr) ?_
      by_cases hm : rd xs i > 4611686018427387904 - S i (rd xs)
      · refine Ev.ite_pos (by rw [wrap_id (by omega) (by omega)]; exact hm) ?_
        rw [if_neg]
        · exact Ev.now _
        · intro ho
          have := S_prefix (n := i + 1) ho.1 (by omega)
          simp only [S] at this
          have := ho.2
          omega
      · refine Ev.ite_neg (by rw [wrap_id (by omega) (by omega)]; exact hm) ?_
        have e2 : wrap64 (S i (rd xs) + rd xs i) = S (i + 1) (rd xs) := by rw [wrap_id (by omega) (by omega)]; rfl
        have e3 : wrap64 ((i : Int) + 1) = ((i + 1 : Nat) : Int) := wrap_succ (by omega)
        refine Ev.congr (fun k => by rw [e2, e3]) (ih (i + 1) (by omega) (by omega) ?_ ?_)
        · intro j a b
          by_cases e : j = i
          · subst e; exact hr.1
          · exact hp j a (by omega)
        · simp only [S]; omega
    · refine Ev.ite_neg (by simp only [decide_eq_true_eq]; exact hr) ?_
      rw [if_neg]
      · exact Ev.now _
      · intro ho
        have h1 := ho.1 i (by omega) (by omega)
        have := S_one_le ho.1 (k := (i : Int)) (by omega) (by omega)
        have := ho.2
        exact hr ⟨h1, by omega⟩

theorem rate_Sum_ev (xs : List Int) (hx : xs.length ≤ 4611686018427387904) : Ev (fun k => rate_Sum.f k xs) (if SumOk xs then (S xs.length (rd xs), true) else (0, false)) :=
  sum_loop xs hx xs.length 0 (by omega) (by omega) (fun j a b => by omega) (by simp [S])

def lA (ls : List S53) (i : Int) : Int := (rd_T53 ls i).f0

def lB (ls : List S53) (i : Int) : Int := (rd_T53 ls i).f1

def lC (ls : List S53) (i : Int) : Int := (rd_T53 ls i).f2

def net (V : Int) (ls : List S53) : Net := { V := V.toNat, m := ls.length, a := lA ls, b := lB ls }

structure GOk (V : Int) (ls : List S53) : Prop where
  v2 : 2 ≤ V
  v8 : V ≤ 8
  m16 : ls.length ≤ 16
  ends : (net V ls).ok
  cap : ∀ i : Int, 0 ≤ i → i < (ls.length : Int) → 0 ≤ lC ls i
  sum : S ls.length (lC ls) ≤ 4611686018427387904

theorem net_V {V : Int} {ls : List S53} (h : 0 ≤ V) : ((net V ls).V : Int) = V := by simp only [net]; omega

theorem GOk.end_ {V : Int} {ls : List S53} (h : GOk V ls) {i : Int} (h0 : 0 ≤ i) (h1 : i < (ls.length : Int)) : (0 ≤ lA ls i ∧ lA ls i < V) ∧ (0 ≤ lB ls i ∧ lB ls i < V) ∧ lA ls i ≠ lB ls i := by
  have := h.ends.h i h0 h1
  have e := net_V (V := V) (ls := ls) (by have := h.v2; omega)
  rw [e] at this
  exact this

theorem rd_map_cap (ls : List S53) {i : Int} (h0 : 0 ≤ i) (h1 : i < (ls.length : Int)) : rd (ls.map (·.f2)) i = lC ls i := by
  unfold rd lC rd_T53
  have hl : i.toNat < ls.length := by omega
  simp only [List.getD_eq_getElem?_getD, List.getElem?_map, List.getElem?_eq_getElem hl]
  rfl

theorem caps_loop (V : Int) (ls : List S53) (hx : ls.length ≤ 17592186044416) (d : Nat) : ∀ (i : Nat), i ≤ ls.length → ls.length - i = d →
    Ev (fun k => graph_Caps.l0 k ((ls.take i).map (·.f2)) ls (ls.length : Int) (i : Int)) (ls.map (·.f2)) := by
  induction d with
  | zero =>
    intro i hi hd
    obtain rfl : i = ls.length := by omega
    refine Ev.step (fun k => by rw [graph_Caps.l0]) ?_
    refine Ev.ite_neg (by omega) ?_
    rw [List.take_length]
    exact Ev.now _
  | succ d ih =>
    intro i hi hd
    refine Ev.step (fun k => by rw [graph_Caps.l0]) ?_
    refine Ev.ite_pos (by omega) ?_
    refine Ev.ite_pos (by omega) ?_
    refine Ev.ite_pos (by omega) ?_
    refine Ev.ite_pos (by simp; omega) ?_
    have e3 : wrap64 ((i : Int) + 1) = ((i + 1 : Nat) : Int) := wrap_succ (by omega)
    have e4 : (ls.take i).map (·.f2) ++ [(rd_T53 ls (i : Int)).f2] = (ls.take (i + 1)).map (·.f2) := by
      have hl : i < ls.length := by omega
      rw [List.take_succ_eq_append_getElem hl, List.map_append]
      simp only [rd_T53, Int.toNat_natCast, List.getD_eq_getElem?_getD, List.getElem?_eq_getElem hl]
      rfl
    exact Ev.congr (fun k => by rw [e3, e4]) (ih (i + 1) (by omega) (by omega))

theorem graph_Caps_ev (V : Int) (ls : List S53) (hx : ls.length ≤ 17592186044416) : Ev (fun k => graph_Caps.f k V ls) (ls.map (·.f2)) :=
  caps_loop V ls hx ls.length 0 (by omega) (by omega)

theorem graph_Has_eq (V : Int) (ls : List S53) (v : Int) : graph_Has.f V ls v = some (decide (0 ≤ v ∧ v < V)) := by
  unfold graph_Has.f
  by_cases h : v ≥ 0
  · rw [if_pos h]; congr 1; simp; omega
  · rw [if_neg h]; congr 1; simp; omega

theorem caps_sum (ls : List S53) : SumOk (ls.map (·.f2)) ↔ (∀ i : Int, 0 ≤ i → i < (ls.length : Int) → 0 ≤ lC ls i) ∧ S ls.length (lC ls) ≤ 4611686018427387904 := by
  have e : S (ls.map (·.f2)).length (rd (ls.map (·.f2))) = S ls.length (lC ls) := by
    rw [List.length_map]
    exact S_congr (fun i a b => rd_map_cap ls a b)
  unfold SumOk
  rw [e, List.length_map]
  constructor
  · rintro ⟨h1, h2⟩
    exact ⟨fun i a b => by rw [← rd_map_cap ls a b]; exact h1 i a b, h2⟩
  · rintro ⟨h1, h2⟩
    exact ⟨fun i a b => by rw [rd_map_cap ls a b]; exact h1 i a b, h2⟩

/-- link i is fine -/
def LinkOk (V : Int) (ls : List S53) (i : Int) : Prop := (0 ≤ lA ls i ∧ lA ls i < V) ∧ (0 ≤ lB ls i ∧ lB ls i < V) ∧ lA ls i ≠ lB ls i

theorem gok_iff (V : Int) (ls : List S53) : GOk V ls ↔ 2 ≤ V ∧ V ≤ 8 ∧ ls.length ≤ 16 ∧ (∀ i : Int, 0 ≤ i → i < (ls.length : Int) → LinkOk V ls i) ∧ (∀ i : Int, 0 ≤ i → i < (ls.length : Int) → 0 ≤ lC ls i) ∧ S ls.length (lC ls) ≤ 4611686018427387904 := by
  constructor
  · intro h
    exact ⟨h.v2, h.v8, h.m16, fun i a b => h.end_ a b, h.cap, h.sum⟩
  · rintro ⟨h1, h2, h3, h4, h5, h6⟩
    refine ⟨h1, h2, h3, ⟨fun i a b => ?_⟩, h5, h6⟩
    rw [net_V (by omega)]
    exact h4 i a b

theorem may_loop (V : Int) (ls : List S53) (hv : 2 ≤ V ∧ V ≤ 8) (hm : ls.length ≤ 16) (d : Nat) : ∀ (i : Nat), i ≤ ls.length → ls.length - i = d → (∀ j : Int, 0 ≤ j → j < (i : Int) → LinkOk V ls j) →
    Ev (fun k => graph_May.l0 k ls (ls.length : Int) (i : Int) V ls) (decide (GOk V ls)) := by
  induction d with
  | zero =>
    intro i hi hd hp
    obtain rfl : i = ls.length := by omega
    refine Ev.step (fun k => by rw [graph_May.l0]) ?_
    refine Ev.ite_neg (by omega) ?_
    refine Ev.bind (graph_Caps_ev V ls (by omega)) ?_
    refine Ev.bind (rate_Sum_ev _ (by rw [List.length_map]; omega)) ?_
    have : (if SumOk (ls.map (·.f2)) then (S (ls.map (·.f2)).length (rd (ls.map (·.f2))), true) else ((0 : Int), false)).2 = decide (GOk V ls) := by
      by_cases hs : SumOk (ls.map (·.f2))
      · rw [if_pos hs, decide_eq_true]
        rw [gok_iff]
        have := (caps_sum ls).1 hs
        exact ⟨hv.1, hv.2, hm, hp, this.1, this.2⟩
      · rw [if_neg hs, decide_eq_false]
        rw [gok_iff]
        rintro ⟨_, _, _, _, h5, h6⟩
        exact hs ((caps_sum ls).2 ⟨h5, h6⟩)
    rw [this]
    exact Ev.now _
  | succ d ih =>
    intro i hi hd hp
    have no : ¬ LinkOk V ls i → ¬ GOk V ls := fun h g => h (((gok_iff V ls).1 g).2.2.2.1 i (by omega) (by omega))
    refine Ev.step (fun k => by rw [graph_May.l0]) ?_
    refine Ev.ite_pos (by omega) ?_
    refine Ev.ite_pos (by omega) ?_
    refine Ev.ite_pos (by omega) ?_
    refine Ev.call (graph_Has_eq _ _ _) ?_
    by_cases ha : 0 ≤ lA ls i ∧ lA ls i < V
    · refine Ev.ite_pos (decide_eq_true ha) ?_
      refine Ev.call (graph_Has_eq _ _ _) ?_
      by_cases hb : 0 ≤ lB ls i ∧ lB ls i < V
      · refine Ev.ite_pos (decide_eq_true hb) ?_
        by_cases he : lA ls i = lB ls i
        · refine Ev.ite_pos he ?_
          rw [decide_eq_false (no (fun h => h.2.2 he))]
          exact Ev.now _
        · refine Ev.ite_neg he ?_
          have e3 : wrap64 ((i : Int) + 1) = ((i + 1 : Nat) : Int) := wrap_succ (by omega)
          refine Ev.congr (fun k => by rw [e3]) (ih (i + 1) (by omega) (by omega) ?_)
          intro j a b
          by_cases e : j = i
          · subst e; exact ⟨ha, hb, he⟩
          · exact hp j a (by omega)
      · refine Ev.ite_neg (by simp only [decide_eq_true_eq]; exact hb) ?_
        rw [decide_eq_false (no (fun h => hb h.2.1))]
        exact Ev.now _
    · refine Ev.ite_neg (by simp only [decide_eq_true_eq]; exact ha) ?_
      rw [decide_eq_false (no (fun h => ha h.1))]
      exact Ev.now _

theorem graph_May_ev (V : Int) (ls : List S53) : Ev (fun k => graph_May.f k V ls) (decide (GOk V ls)) := by
  have no : ¬ (2 ≤ V ∧ V ≤ 8 ∧ ls.length ≤ 16) → Ev (fun k => graph_May.j0 k true V ls) (decide (GOk V ls)) := by
    intro h
    rw [decide_eq_false (fun g => h ⟨g.v2, g.v8, g.m16⟩)]
    refine Ev.step (fun k => by rw [graph_May.j0]) ?_
    exact Ev.ite_pos rfl (Ev.now _)
  unfold graph_May.f
  by_cases h1 : V < 2
  · exact Ev.ite_pos h1 (no (by omega))
  · refine Ev.ite_neg h1 ?_
    by_cases h2 : V > 8
    · exact Ev.ite_pos h2 (no (by omega))
    · refine Ev.ite_neg h2 ?_
      by_cases h3 : (ls.length : Int) > 16
      · rw [decide_eq_true h3]; exact no (by omega)
      · rw [decide_eq_false h3]
        refine Ev.step (fun k => by rw [graph_May.j0]) ?_
        refine Ev.ite_neg (by simp) ?_
        exact may_loop V ls (by omega) (by omega) ls.length 0 (by omega) (by omega) (fun j a b => by omega)

structure CapsOk (V : Int) (ls : List S53) (caps : List Int) : Prop where
  g : GOk V ls
  len : caps.length = ls.length
  le : ∀ i : Int, 0 ≤ i → i < (caps.length : Int) → 0 ≤ rd caps i ∧ rd caps i ≤ lC ls i

structure Win (caps f : List Int) : Prop where
  len : f.length = caps.length
  le : ∀ i : Int, 0 ≤ i → i < (f.length : Int) → 0 ≤ rd f i ∧ rd f i ≤ rd caps i

theorem takes_loop (V : Int) (ls : List S53) (caps : List Int) (hg : GOk V ls) (hl : caps.length = ls.length) (d : Nat) : ∀ (i : Nat), i ≤ caps.length → caps.length - i = d → (∀ j : Int, 0 ≤ j → j < (i : Int) → 0 ≤ rd caps j ∧ rd caps j ≤ lC ls j) →
    Ev (fun k => graph_Takes.l0 k caps (caps.length : Int) (i : Int) V ls) (decide (CapsOk V ls caps)) := by
  induction d with
  | zero =>
    intro i hi hd hp
    obtain rfl : i = caps.length := by omega
    refine Ev.step (fun k => by rw [graph_Takes.l0]) ?_
    refine Ev.ite_neg (by omega) ?_
    rw [decide_eq_true (⟨hg, hl, hp⟩ : CapsOk V ls caps)]
    exact Ev.now _
  | succ d ih =>
    intro i hi hd hp
    have hm := hg.m16
    refine Ev.step (fun k => by rw [graph_Takes.l0]) ?_
    refine Ev.ite_pos (by omega) ?_
    refine Ev.ite_pos (by omega) ?_
    refine Ev.ite_pos (by omega) ?_
    by_cases h1 : rd caps i < 0
    · refine Ev.ite_pos h1 ?_
      rw [decide_eq_false (fun h : CapsOk V ls caps => by have := h.le i (by omega) (by omega); omega)]
      exact Ev.now _
    · refine Ev.ite_neg h1 ?_
      refine Ev.ite_pos (by omega) ?_
      by_cases h2 : rd caps i > lC ls i
      · refine Ev.ite_pos h2 ?_
        rw [decide_eq_false (fun h : CapsOk V ls caps => by have := h.le i (by omega) (by omega); omega)]
        exact Ev.now _
      · refine Ev.ite_neg h2 ?_
        have X := ih (i + 1) (by omega) (by omega) (fun j a b => by
          by_cases e : j = i
          · subst e; omega
          · exact hp j a (by omega))
        have e3 : wrap64 ((i : Int) + 1) = ((i + 1 : Nat) : Int) := wrap_succ (by omega)
        exact Ev.congr (fun k => by rw [e3]) X

theorem graph_Takes_ev (V : Int) (ls : List S53) (caps : List Int) : Ev (fun k => graph_Takes.f k V ls caps) (decide (CapsOk V ls caps)) := by
  have no : ¬ CapsOk V ls caps → Ev (fun k => graph_Takes.j0 k caps true V ls) (decide (CapsOk V ls caps)) := by
    intro h
    rw [decide_eq_false h]
    refine Ev.step (fun k => by rw [graph_Takes.j0]) ?_
    exact Ev.ite_pos rfl (Ev.now _)
  unfold graph_Takes.f
  refine Ev.bind (graph_May_ev V ls) ?_
  by_cases h : GOk V ls
  · refine Ev.ite_pos (decide_eq_true h) ?_
    by_cases hl : caps.length = ls.length
    · have e : ((caps.length : Int) != (ls.length : Int)) = false := by simp [hl]
      rw [e]
      refine Ev.step (fun k => by rw [graph_Takes.j0]) ?_
      refine Ev.ite_neg (by simp) ?_
      exact takes_loop V ls caps h hl caps.length 0 (by omega) (by omega) (fun j a b => by omega)
    · have e : ((caps.length : Int) != (ls.length : Int)) = true := by simp; omega
      rw [e]
      exact no (fun g => hl g.len)
  · refine Ev.ite_neg (by simp only [decide_eq_true_eq]; exact h) ?_
    exact no (fun g => h g.g)

theorem lies_loop (caps f : List Int) (hl : f.length = caps.length) (hx : f.length ≤ 17592186044416) (d : Nat) : ∀ (i : Nat), i ≤ f.length → f.length - i = d → (∀ j : Int, 0 ≤ j → j < (i : Int) → 0 ≤ rd f j ∧ rd f j ≤ rd caps j) →
    Ev (fun k => stream_Lies.l0 k caps f (f.length : Int) (i : Int)) (decide (Win caps f)) := by
  induction d with
  | zero =>
    intro i hi hd hp
    obtain rfl : i = f.length := by omega
    refine Ev.step (fun k => by rw [stream_Lies.l0]) ?_
    refine Ev.ite_neg (by omega) ?_
    rw [decide_eq_true (⟨hl, hp⟩ : Win caps f)]
    exact Ev.now _
  | succ d ih =>
    intro i hi hd hp
    refine Ev.step (fun k => by rw [stream_Lies.l0]) ?_
    refine Ev.ite_pos (by omega) ?_
    refine Ev.ite_pos (by omega) ?_
    refine Ev.ite_pos (by omega) ?_
    by_cases h1 : rd f i < 0
    · refine Ev.ite_pos h1 ?_
      rw [decide_eq_false (fun h : Win caps f => by have := h.le i (by omega) (by omega); omega)]
      exact Ev.now _
    · refine Ev.ite_neg h1 ?_
      refine Ev.ite_pos (by omega) ?_
      by_cases h2 : rd f i > rd caps i
      · refine Ev.ite_pos h2 ?_
        rw [decide_eq_false (fun h : Win caps f => by have := h.le i (by omega) (by omega); omega)]
        exact Ev.now _
      · refine Ev.ite_neg h2 ?_
        have X := ih (i + 1) (by omega) (by omega) (fun j a b => by
          by_cases e : j = i
          · subst e; omega
          · exact hp j a (by omega))
        have e3 : wrap64 ((i : Int) + 1) = ((i + 1 : Nat) : Int) := wrap_succ (by omega)
        exact Ev.congr (fun k => by rw [e3]) X

theorem stream_Lies_ev (V : Int) (ls : List S53) (caps f : List Int) : Ev (fun k => stream_Lies.f k V ls caps f) (decide (CapsOk V ls caps ∧ Win caps f)) := by
  have no : ¬ (CapsOk V ls caps ∧ Win caps f) → Ev (fun k => stream_Lies.j0 k caps f true) (decide (CapsOk V ls caps ∧ Win caps f)) := by
    intro h
    rw [decide_eq_false h]
    refine Ev.step (fun k => by rw [stream_Lies.j0]) ?_
    exact Ev.ite_pos rfl (Ev.now _)
  unfold stream_Lies.f
  refine Ev.bind (graph_Takes_ev V ls caps) ?_
  by_cases h : CapsOk V ls caps
  · refine Ev.ite_pos (decide_eq_true h) ?_
    by_cases hl : f.length = caps.length
    · have e : ((f.length : Int) != (caps.length : Int)) = false := by simp [hl]
      rw [e]
      refine Ev.step (fun k => by rw [stream_Lies.j0]) ?_
      refine Ev.ite_neg (by simp) ?_
      have e2 : (CapsOk V ls caps ∧ Win caps f) = Win caps f := by simp [h]
      simp only [e2]
      exact lies_loop caps f hl (by have := h.g.m16; have := h.len; omega) f.length 0 (by omega) (by omega) (fun j a b => by omega)
    · have e : ((f.length : Int) != (caps.length : Int)) = true := by simp; omega
      rw [e]
      exact no (fun g => hl g.2.len)
  · refine Ev.ite_neg (by simp only [decide_eq_true_eq]; exact h) ?_
    exact no (fun g => h g.1)

/-- what the first n links bring a vertex -/
def gainTo (N : Net) (f : Int → Int) (v : Int) (n : Nat) : Int := S n (fun i => (if N.a i = v then f i else 0) - (if N.b i = v then f i else 0))

theorem S_abs {n : Nat} {f g : Int → Int} (h : ∀ i : Int, 0 ≤ i → i < (n : Int) → -(g i) ≤ f i ∧ f i ≤ g i) : -(S n g) ≤ S n f ∧ S n f ≤ S n g := by
  induction n with
  | zero => simp [S]
  | succ n ih =>
    have h1 := ih (fun i a b => h i a (by omega))
    have h2 := h n (by omega) (by omega)
    simp only [S]
    omega

/-- a list within a graph's own caps -/
structure Fine (V : Int) (ls : List S53) (f : List Int) : Prop where
  g : GOk V ls
  len : f.length = ls.length
  le : ∀ i : Int, 0 ≤ i → i < (ls.length : Int) → 0 ≤ rd f i ∧ rd f i ≤ lC ls i

theorem Fine.of {V : Int} {ls : List S53} {caps f : List Int} (h : CapsOk V ls caps) (w : Win caps f) : Fine V ls f :=
  ⟨h.g, by rw [w.len, h.len], fun i a b => by
    have h1 := w.le i a (by rw [w.len, h.len]; exact b)
    have h2 := h.le i a (by rw [h.len]; exact b)
    omega⟩

theorem Fine.sum_le {V : Int} {ls : List S53} {f : List Int} (h : Fine V ls f) {n : Nat} (hn : n ≤ ls.length) : 0 ≤ S n (rd f) ∧ S n (rd f) ≤ 4611686018427387904 := by
  have h1 : S n (rd f) ≤ S ls.length (rd f) := S_prefix (fun i a b => (h.le i a b).1) hn
  have h2 : S ls.length (rd f) ≤ S ls.length (lC ls) := S_le (fun i a b => (h.le i a b).2)
  have h3 := h.g.sum
  have h4 : 0 ≤ S n (rd f) := S_nonneg (fun i a b => (h.le i a (by omega)).1)
  omega

theorem Fine.gain_bound {V : Int} {ls : List S53} {f : List Int} (h : Fine V ls f) (v : Int) {n : Nat} (hn : n ≤ ls.length) :
    -4611686018427387904 ≤ gainTo (net V ls) (rd f) v n ∧ gainTo (net V ls) (rd f) v n ≤ 4611686018427387904 := by
  have h1 := h.sum_le hn
  have h2 := S_abs (n := n) (f := fun i => (if (net V ls).a i = v then rd f i else 0) - (if (net V ls).b i = v then rd f i else 0)) (g := rd f) (fun i a b => by
    have h3 := h.le i a (by omega)
    have h4 := h.g.end_ (i := i) a (by omega)
    have h5 : ¬ ((net V ls).a i = v ∧ (net V ls).b i = v) := fun e => h4.2.2 (e.1.trans e.2.symm)
    by_cases ea : (net V ls).a i = v
    · have eb : ¬ (net V ls).b i = v := fun e => h5 ⟨ea, e⟩
      rw [if_pos ea, if_neg eb]; omega
    · rw [if_neg ea]
      by_cases eb : (net V ls).b i = v
      · rw [if_pos eb]; omega
      · rw [if_neg eb]; omega)
  unfold gainTo
  omega

theorem gains_loop (V : Int) (ls : List S53) (f : List Int) (h : Fine V ls f) (d : Nat) : ∀ (i : Nat), i ≤ ls.length → ls.length - i = d →
    Ev (fun k => stream_gains.l0 k f (tab V.toNat (fun v => gainTo (net V ls) (rd f) v i)) ls (ls.length : Int) (i : Int)) (tab V.toNat (gain (net V ls) (rd f))) := by
  induction d with
  | zero =>
    intro i hi hd
    obtain rfl : i = ls.length := by omega
    refine Ev.step (fun k => by rw [stream_gains.l0]) ?_
    refine Ev.ite_neg (by omega) ?_
    exact Ev.now _
  | succ d ih =>
    intro i hi hd
    have X := ih (i + 1) (by omega) (by omega)
    have hv := h.g.v8
    have hm := h.g.m16
    obtain ⟨⟨a0, a1⟩, ⟨b0, b1⟩, hab⟩ := h.g.end_ (i := (i : Int)) (by omega) (by omega)
    have hl : (tab V.toNat (fun v => gainTo (net V ls) (rd f) v i)).length = V.toNat := tab_len _ _
    refine Ev.step (fun k => by rw [stream_gains.l0]) ?_
    refine Ev.ite_pos (by omega) ?_
    refine Ev.ite_pos (by omega) ?_
    refine Ev.ite_pos (by omega) ?_
    refine Ev.ite_pos a0 ?_
    refine Ev.ite_pos (by show lA ls i < _; rw [hl]; omega) ?_
    refine Ev.ite_pos (by have := h.len; omega) ?_
    refine Ev.call rfl ?_
    refine Ev.ite_pos b0 ?_
    refine Ev.ite_pos (by show lB ls i < _; rw [hl]; omega) ?_
    have key : ((tab V.toNat (fun v => gainTo (net V ls) (rd f) v i)).set (lA ls i).toNat (wrap64 (rd (tab V.toNat (fun v => gainTo (net V ls) (rd f) v i)) (lA ls i) + rd f i))).set (lB ls i).toNat
        (wrap64 (rd ((tab V.toNat (fun v => gainTo (net V ls) (rd f) v i)).set (lA ls i).toNat (wrap64 (rd (tab V.toNat (fun v => gainTo (net V ls) (rd f) v i)) (lA ls i) + rd f i))) (lB ls i) - rd f i))
        = tab V.toNat (fun v => gainTo (net V ls) (rd f) v (i + 1)) := by
      refine eq_tab (by rw [List.length_set, List.length_set, hl]) (fun v v0 v1 => ?_)
      have g1 := h.gain_bound v (n := i + 1) (by omega)
      have hf := h.le (i : Int) (by omega) (by omega)
      have e0 : gainTo (net V ls) (rd f) v (i + 1) = gainTo (net V ls) (rd f) v i + ((if lA ls i = v then rd f i else 0) - (if lB ls i = v then rd f i else 0)) := rfl
      rw [rd_set b0 (by rw [List.length_set, hl]; omega) v0]
      by_cases eb : v = lB ls i
      · subst eb
        rw [if_pos rfl, rd_set a0 (by rw [hl]; omega) b0, if_neg (fun e => hab e.symm), rd_tab b0 v1, e0, if_neg hab, if_pos rfl]
        rw [e0, if_neg hab, if_pos rfl] at g1
        rw [wrap_id (by omega) (by omega)]
        omega
      · rw [if_neg eb, rd_set a0 (by rw [hl]; omega) v0]
        by_cases ea : v = lA ls i
        · subst ea
          rw [if_pos rfl, rd_tab a0 v1, e0, if_pos rfl, if_neg (fun e => hab e.symm)]
          rw [e0, if_pos rfl, if_neg (fun e => hab e.symm)] at g1
          rw [wrap_id (by omega) (by omega)]
          omega
        · rw [if_neg ea, rd_tab v0 v1, e0, if_neg (fun e => ea e.symm), if_neg (fun e => eb e.symm)]
          omega
    have e3 : wrap64 ((i : Int) + 1) = ((i + 1 : Nat) : Int) := wrap_succ (by omega)
    rw [← key] at X
    exact Ev.congr (fun k => by rw [e3]; rfl) X

theorem stream_gains_ev (V : Int) (ls : List S53) (f : List Int) (h : Fine V ls f) : Ev (fun k => stream_gains.f k V ls f) (tab V.toNat (gain (net V ls) (rd f))) := by
  have hv := h.g.v8
  have hv2 := h.g.v2
  unfold stream_gains.f
  refine Ev.ite_pos (by omega) ?_
  refine Ev.ite_pos (by omega) ?_
  have X := gains_loop V ls f h ls.length 0 (by omega) (by omega)
  have e : tab V.toNat (fun v => gainTo (net V ls) (rd f) v 0) = List.replicate V.toNat 0 :=
    (eq_tab (by simp) (fun i a b => by rw [rd_rep a b]; rfl)).symm
  rw [e] at X
  exact X

theorem fine_iff (V : Int) (ls : List S53) (f : List Int) : (CapsOk V ls (ls.map (·.f2)) ∧ Win (ls.map (·.f2)) f) ↔ Fine V ls f := by
  constructor
  · rintro ⟨h, w⟩
    exact Fine.of h w
  · intro h
    have hc : CapsOk V ls (ls.map (·.f2)) := ⟨h.g, by simp, fun i a b => by
      rw [List.length_map] at b
      rw [rd_map_cap ls a b]
      exact ⟨h.g.cap i a b, Int.le_refl _⟩⟩
    refine ⟨hc, by rw [List.length_map]; exact h.len, fun i a b => ?_⟩
    have b2 : i < (ls.length : Int) := by rw [← h.len]; exact b
    rw [rd_map_cap ls a b2]
    exact h.le i a b2

theorem stream_Value_ev (V : Int) (ls : List S53) (f : List Int) (s : Int) (hx : ls.length ≤ 17592186044416) :
    Ev (fun k => stream_Value.f k V ls f s) (if Fine V ls f ∧ 0 ≤ s ∧ s < V then (gain (net V ls) (rd f) s, 0) else (0, 900)) := by
  unfold stream_Value.f
  refine Ev.bind (graph_Caps_ev V ls hx) ?_
  refine Ev.bind (stream_Lies_ev V ls _ f) ?_
  by_cases h : Fine V ls f
  · refine Ev.ite_pos (decide_eq_true ((fine_iff V ls f).2 h)) ?_
    refine Ev.call (graph_Has_eq _ _ _) ?_
    by_cases hs : 0 ≤ s ∧ s < V
    · refine Ev.ite_pos (decide_eq_true hs) ?_
      refine Ev.bind (stream_gains_ev V ls f h) ?_
      refine Ev.ite_pos hs.1 ?_
      refine Ev.ite_pos (by rw [tab_len]; omega) ?_
      rw [if_pos ⟨h, hs⟩, rd_tab hs.1 (by omega)]
      exact Ev.now _
    · refine Ev.ite_neg (by simp only [decide_eq_true_eq]; exact hs) ?_
      rw [if_neg (fun g => hs g.2)]
      exact Ev.now _
  · refine Ev.ite_neg (by simp only [decide_eq_true_eq]; exact fun g => h ((fine_iff V ls f).1 g)) ?_
    rw [if_neg (fun g => h g.1)]
    exact Ev.now _

theorem awake9 : Ev (fun k => tollbarlaw9_awake.f k) true := Ev.of tollbarlaw9_awake.mono (k := 100) (by decide +kernel)

theorem Num_eq9 (x : Int) : tollbarlaw0_Num.f x = some x := rfl

def posI (x : Int) : Int := if x > 0 then x else 0

def negI (x : Int) : Int := if x > 0 then 0 else -x

theorem posI_nonneg (x : Int) : 0 ≤ posI x := by unfold posI; split <;> omega

theorem negI_nonneg (x : Int) : 0 ≤ negI x := by unfold negI; split <;> omega

theorem posI_negI (x : Int) : posI x - negI x = x := by unfold posI negI; split <;> omega

theorem S_by_end (V m : Nat) (a f : Int → Int) (ha : ∀ i : Int, 0 ≤ i → i < (m : Int) → 0 ≤ a i ∧ a i < (V : Int)) : S V (fun v => S m (fun i => if a i = v then f i else 0)) = S m f := by
  rw [S_swap]
  exact S_congr (fun i h0 h1 => S_single' V (a i) (f i) (ha i h0 h1).1 (ha i h0 h1).2)

theorem pos_le {V : Int} {ls : List S53} {f : List Int} (h : Fine V ls f) : S V.toNat (fun v => posI (gain (net V ls) (rd f) v)) ≤ 4611686018427387904 ∧ S V.toNat (fun v => negI (gain (net V ls) (rd f) v)) ≤ 4611686018427387904 := by
  have hV := net_V (V := V) (ls := ls) (by have := h.g.v2; omega)
  have hv2 := h.g.v2
  have hs := h.sum_le (n := ls.length) (Nat.le_refl _)
  have e1 := S_by_end V.toNat ls.length (lA ls) (rd f) (fun i a b => by have := h.g.end_ a b; omega)
  have e2 := S_by_end V.toNat ls.length (lB ls) (rd f) (fun i a b => by have := h.g.end_ a b; omega)
  have key : ∀ v : Int, posI (gain (net V ls) (rd f) v) ≤ S ls.length (fun i => if lA ls i = v then rd f i else 0) ∧ negI (gain (net V ls) (rd f) v) ≤ S ls.length (fun i => if lB ls i = v then rd f i else 0) := by
    intro v
    have g : gain (net V ls) (rd f) v = S ls.length (fun i => if lA ls i = v then rd f i else 0) - S ls.length (fun i => if lB ls i = v then rd f i else 0) := by
      rw [← S_sub]; rfl
    have n1 : 0 ≤ S ls.length (fun i => if lA ls i = v then rd f i else 0) := S_nonneg (fun i a b => by have := h.le i a b; split <;> omega)
    have n2 : 0 ≤ S ls.length (fun i => if lB ls i = v then rd f i else 0) := S_nonneg (fun i a b => by have := h.le i a b; split <;> omega)
    unfold posI negI
    constructor <;> split <;> omega
  constructor
  · have := S_le (m := V.toNat) (fun v _ _ => (key v).1)
    rw [e1] at this
    omega
  · have := S_le (m := V.toNat) (fun v _ _ => (key v).2)
    rw [e2] at this
    omega

theorem sums_loop {V : Int} {ls : List S53} {f : List Int} (h : Fine V ls f) (d : Nat) : ∀ (i : Nat), (i : Int) ≤ V → V.toNat - i = d →
    Ev (fun k => tollbarlaw9_StreamSums.l0 k f (S i (fun v => posI (gain (net V ls) (rd f) v))) (S i (fun v => negI (gain (net V ls) (rd f) v))) (i : Int) V ls) true := by
  have hv := h.g.v8
  have hv2 := h.g.v2
  have hm := h.g.m16
  have hV := net_V (V := V) (ls := ls) (by omega)
  have hb := pos_le h
  induction d with
  | zero =>
    intro i hi hd
    have hiV : i = V.toNat := by omega
    refine Ev.step (fun k => by rw [tollbarlaw9_StreamSums.l0]) ?_
    refine Ev.ite_neg (by omega) ?_
    refine Ev.bind awake9 (Ev.ite_pos rfl ?_)
    have e : S i (fun v => posI (gain (net V ls) (rd f) v)) = S i (fun v => negI (gain (net V ls) (rd f) v)) := by
      have h1 := gains_zero (net V ls) h.g.ends (rd f)
      have h2 : S (net V ls).V (fun v => gain (net V ls) (rd f) v) = S i (fun v => posI (gain (net V ls) (rd f) v)) - S i (fun v => negI (gain (net V ls) (rd f) v)) := by
        rw [← S_sub, show (net V ls).V = i by omega]
        exact S_congr (fun v _ _ => (posI_negI _).symm)
      omega
    rw [e]
    simpa using Ev.now true
  | succ d ih =>
    intro i hi hd
    have X := ih (i + 1) (by omega) (by omega)
    have Y := stream_Value_ev V ls f (i : Int) (by omega)
    rw [if_pos ⟨h, by omega, by omega⟩] at Y
    have p1 := S_prefix (f := fun v => posI (gain (net V ls) (rd f) v)) (n := i + 1) (m := V.toNat) (fun v _ _ => posI_nonneg _) (by omega)
    have p2 := S_prefix (f := fun v => negI (gain (net V ls) (rd f) v)) (n := i + 1) (m := V.toNat) (fun v _ _ => negI_nonneg _) (by omega)
    have q1 : 0 ≤ S i (fun v => posI (gain (net V ls) (rd f) v)) := S_nonneg (fun v _ _ => posI_nonneg _)
    have q2 : 0 ≤ S i (fun v => negI (gain (net V ls) (rd f) v)) := S_nonneg (fun v _ _ => negI_nonneg _)
    simp only [S] at p1 p2 X
    refine Ev.step (fun k => by rw [tollbarlaw9_StreamSums.l0]) ?_
    refine Ev.ite_pos (by omega) ?_
    refine Ev.bind Y ?_
    refine Ev.call (Num_eq9 _) ?_
    refine Ev.ite_pos rfl ?_
    clear Y
    generalize hg : gain (net V ls) (rd f) (i : Int) = g at *
    generalize S i (fun v => posI (gain (net V ls) (rd f) v)) = P at *
    generalize S i (fun v => negI (gain (net V ls) (rd f) v)) = M at *
    have g1 := posI_nonneg g
    have g2 := negI_nonneg g
    have fin : Ev (fun k => tollbarlaw9_StreamSums.j1 k f P M (i : Int) g false V ls) true := by
      refine Ev.step (fun k => by rw [tollbarlaw9_StreamSums.j1]) ?_
      refine Ev.ite_neg (by simp) ?_
      have e3 : wrap64 ((i : Int) + 1) = ((i + 1 : Nat) : Int) := wrap_succ (by omega)
      by_cases hpos : g > 0
      · refine Ev.ite_pos hpos ?_
        have a1 : posI g = g := by unfold posI; rw [if_pos hpos]
        have a2 : negI g = 0 := by unfold negI; rw [if_pos hpos]
        rw [a1, a2] at X
        rw [a1] at p1
        have e4 : wrap64 (P + g) = P + g := wrap_id (by omega) (by omega)
        rw [show M + 0 = M by omega] at X
        exact Ev.congr (fun k => by rw [e3, e4]) X
      · refine Ev.ite_neg hpos ?_
        have a1 : posI g = 0 := by unfold posI; rw [if_neg hpos]
        have a2 : negI g = -g := by unfold negI; rw [if_neg hpos]
        rw [a1, a2] at X
        rw [a2] at p2
        have e4 : wrap64 (M - g) = M + -g := by rw [wrap_id (by omega) (by omega)]; omega
        rw [show P + 0 = P by omega] at X
        exact Ev.congr (fun k => by rw [e3, e4]) X
    show Ev (fun k => if g > wrap64 (4611686018427387904 - P) then (if g > 0 then tollbarlaw9_StreamSums.j1 k f P M (i : Int) g true V ls else (if g < wrap64 (M - 4611686018427387904) then tollbarlaw9_StreamSums.j1 k f P M (i : Int) g (decide (g < 0)) V ls else tollbarlaw9_StreamSums.j1 k f P M (i : Int) g false V ls)) else (if g < wrap64 (M - 4611686018427387904) then tollbarlaw9_StreamSums.j1 k f P M (i : Int) g (decide (g < 0)) V ls else tollbarlaw9_StreamSums.j1 k f P M (i : Int) g false V ls)) true
    have n1 : ¬ (g > 4611686018427387904 - P ∧ g > 0) := by
      rintro ⟨x1, x2⟩
      have a1 : posI g = g := by unfold posI; rw [if_pos x2]
      rw [a1] at p1
      omega
    have n2 : ¬ (g < M - 4611686018427387904) := by
      intro x1
      have a2 : negI g = -g := by unfold negI; rw [if_neg (by omega)]
      rw [a2] at p2
      omega
    have tail : Ev (fun k => if g < wrap64 (M - 4611686018427387904) then tollbarlaw9_StreamSums.j1 k f P M (i : Int) g (decide (g < 0)) V ls else tollbarlaw9_StreamSums.j1 k f P M (i : Int) g false V ls) true :=
      Ev.ite_neg (by rw [wrap_id (by omega) (by omega)]; exact n2) fin
    by_cases x1 : g > 4611686018427387904 - P
    · refine Ev.ite_pos (by rw [wrap_id (by omega) (by omega)]; exact x1) ?_
      exact Ev.ite_neg (fun x2 => n1 ⟨x1, x2⟩) tail
    · exact Ev.ite_neg (by rw [wrap_id (by omega) (by omega)]; exact x1) tail

theorem StreamSums (V : Int) (ls : List S53) (f : List Int) (hx : ls.length ≤ 17592186044416) : Ev (fun k => tollbarlaw9_StreamSums.f k V ls f) true := by
  unfold tollbarlaw9_StreamSums.f
  refine Ev.bind (stream_Value_ev V ls f 0 hx) ?_
  by_cases h : Fine V ls f ∧ 0 ≤ (0 : Int) ∧ 0 < V
  · rw [if_pos h]
    refine Ev.call (Num_eq9 _) ?_
    refine Ev.ite_pos rfl ?_
    exact sums_loop h.1 V.toNat 0 (by omega) (by omega)
  · rw [if_neg h]
    refine Ev.call (Num_eq9 _) ?_
    refine Ev.ite_neg (by decide) ?_
    exact Ev.now _

end Go.Proofs.Ytcfbfghdkgakmaa.Q
end
