/- Texts of this claim, one behind the other: QArcsTurned. -/
import Derived.Test.YtbbdbnikogmidabAe77284
import Derived.Test.YtbbdbnikogmidabAed22b2
import Derived.Test.YtbbdbnikogmidabA2b6172
import Derived.Test.YtbbdbnikogmidabAd94d68
import Derived.Test.YtbbdbnikogmidabAe434a3
section
/- What the law ArcsTurned leans on, and the law itself on what its printed walk tells: plain. -/
namespace Go.Proofs.Ytbbdbnikogmidab.Q
open Go.RowKit Go.Proofs.YtbbdbnikogmidabW.PrintWords Go.Proofs.YtbbdbnikogmidabW.PrintMore Go.Proofs.Ytbbdbnikogmidab.PAll Go.Proofs.Ytbbdbnikogmidab.Plain
set_option linter.unusedVariables false
set_option linter.unusedSimpArgs false
attribute [local instance] Classical.propDecidable

theorem S_prefix {f : Int → Int} {n m : Nat} (h : ∀ i : Int, 0 ≤ i → i < (m : Int) → 0 ≤ f i) (hn : n ≤ m) : S n f ≤ S m f := by
  induction m with
  | zero => obtain rfl : n = 0 := by omega
            exact Int.le_refl _
  | succ m ih =>
    by_cases e : n = m + 1
    · subst e; exact Int.le_refl _
    · have h1 := ih (fun i a b => h i a (by omega)) (by omega)
      have h2 := h (m : Int) (by omega) (by omega)
      simp only [S]
      omega

theorem rate_Is_eq (x : Int) : rate_Is.f x = some (decide (0 ≤ x ∧ x ≤ 4611686018427387904)) := by
  unfold rate_Is.f
  by_cases h : x ≥ 0
  · rw [if_pos h]; congr 1; simp; omega
  · rw [if_neg h]; congr 1; simp; omega

def SumOk (xs : List Int) : Prop := (∀ i : Int, 0 ≤ i → i < (xs.length : Int) → 0 ≤ rd xs i) ∧ S xs.length (rd xs) ≤ 4611686018427387904

theorem sum_loop (xs : List Int) (hx : xs.length ≤ 4611686018427387904) (d : Nat) : ∀ (i : Nat), i ≤ xs.length → xs.length - i = d → (∀ j : Int, 0 ≤ j → j < (i : Int) → 0 ≤ rd xs j) → S i (rd xs) ≤ 4611686018427387904 →
    Ev (fun k => rate_Sum.l0 k (S i (rd xs)) xs (xs.length : Int) (i : Int)) (if SumOk xs then (S xs.length (rd xs), true) else (0, false)) := by
  induction d with
  | zero =>
    intro i hi hd hp hs
    obtain rfl : i = xs.length := by omega
    refine Ev.step (fun k => by rw [rate_Sum.l0]) ?_
    refine Ev.ite_neg (by omega) ?_
    rw [if_pos ⟨hp, hs⟩]
    exact Ev.now _
  | succ d ih =>
    intro i hi hd hp hs
    have h0 : 0 ≤ S i (rd xs) := S_nonneg hp
    refine Ev.step (fun k => by rw [rate_Sum.l0]) ?_
    refine Ev.ite_pos (by omega) ?_
    refine Ev.ite_pos (by omega) ?_
    refine Ev.ite_pos (by omega) ?_
    refine Ev.call (rate_Is_eq _) ?_
    by_cases hr : 0 ≤ rd xs i ∧ rd xs i ≤ 4611686018427387904
    · refine Ev.ite_pos (decide_eq_true hr) ?_
      by_cases hm : rd xs i > 4611686018427387904 - S i (rd xs)
      · refine Ev.ite_pos (by rw [wrap_id (by omega) (by omega)]; exact hm) ?_
        rw [if_neg]
        · exact Ev.now _
        · intro ho
          have := S_prefix (n := i + 1) ho.1 (by omega)
          simp only [S] at this
          have := ho.2
          omega
      · refine Ev.ite_neg (by rw [wrap_id (by omega) (by omega)]; exact hm) ?_
        have e2 : wrap64 (S i (rd xs) + rd xs i) = S (i + 1) (rd xs) := by rw [wrap_id (by omega) (by omega)]; rfl
        have e3 : wrap64 ((i : Int) + 1) = ((i + 1 : Nat) : Int) := wrap_succ (by omega)
        refine Ev.congr (fun k => by rw [e2, e3]) (ih (i + 1) (by omega) (by omega) ?_ ?_)
        · intro j a b
          by_cases e : j = i
          · subst e; exact hr.1
          · exact hp j a (by omega)
        · simp only [S]; omega
    · refine Ev.ite_neg (by simp only [decide_eq_true_eq]; exact hr) ?_
      rw [if_neg]
      · exact Ev.now _
      · intro ho
        have h1 := ho.1 i (by omega) (by omega)
        have := S_one_le ho.1 (k := (i : Int)) (by omega) (by omega)
        have := ho.2
        exact hr ⟨h1, by omega⟩

theorem rate_Sum_ev (xs : List Int) (hx : xs.length ≤ 4611686018427387904) : Ev (fun k => rate_Sum.f k xs) (if SumOk xs then (S xs.length (rd xs), true) else (0, false)) :=
  sum_loop xs hx xs.length 0 (by omega) (by omega) (fun j a b => by omega) (by simp [S])

def lA (ls : List S34) (i : Int) : Int := (rd_T34 ls i).f0

def lB (ls : List S34) (i : Int) : Int := (rd_T34 ls i).f1

def lC (ls : List S34) (i : Int) : Int := (rd_T34 ls i).f2

def net (V : Int) (ls : List S34) : Net := { V := V.toNat, m := ls.length, a := lA ls, b := lB ls }

structure GOk (V : Int) (ls : List S34) : Prop where
  v2 : 2 ≤ V
  v8 : V ≤ 8
  m16 : ls.length ≤ 16
  ends : (net V ls).ok
  cap : ∀ i : Int, 0 ≤ i → i < (ls.length : Int) → 0 ≤ lC ls i
  sum : S ls.length (lC ls) ≤ 4611686018427387904

theorem net_V {V : Int} {ls : List S34} (h : 0 ≤ V) : ((net V ls).V : Int) = V := by simp only [net]; omega

theorem net_m {V : Int} {ls : List S34} : (net V ls).m = ls.length := rfl

theorem GOk.end_ {V : Int} {ls : List S34} (h : GOk V ls) {i : Int} (h0 : 0 ≤ i) (h1 : i < (ls.length : Int)) : (0 ≤ lA ls i ∧ lA ls i < V) ∧ (0 ≤ lB ls i ∧ lB ls i < V) ∧ lA ls i ≠ lB ls i := by
  have := h.ends.h i h0 h1
  have e := net_V (V := V) (ls := ls) (by have := h.v2; omega)
  rw [e] at this
  exact this

theorem rd_map_cap (ls : List S34) {i : Int} (h0 : 0 ≤ i) (h1 : i < (ls.length : Int)) : rd (ls.map (·.f2)) i = lC ls i := by
  unfold rd lC rd_T34
  have hl : i.toNat < ls.length := by omega
  simp only [List.getD_eq_getElem?_getD, List.getElem?_map, List.getElem?_eq_getElem hl]
  rfl

theorem caps_loop (V : Int) (ls : List S34) (hx : ls.length ≤ 17592186044416) (d : Nat) : ∀ (i : Nat), i ≤ ls.length → ls.length - i = d →
    Ev (fun k => graph_Caps.l0 k ((ls.take i).map (·.f2)) ls (ls.length : Int) (i : Int)) (ls.map (·.f2)) := by
  induction d with
  | zero =>
    intro i hi hd
    obtain rfl : i = ls.length := by omega
    refine Ev.step (fun k => by rw [graph_Caps.l0]) ?_
    refine Ev.ite_neg (by omega) ?_
    rw [List.take_length]
    exact Ev.now _
  | succ d ih =>
    intro i hi hd
    refine Ev.step (fun k => by rw [graph_Caps.l0]) ?_
    refine Ev.ite_pos (by omega) ?_
    refine Ev.ite_pos (by omega) ?_
    refine Ev.ite_pos (by omega) ?_
    refine Ev.ite_pos (by simp; omega) ?_
    have e3 : wrap64 ((i : Int) + 1) = ((i + 1 : Nat) : Int) := wrap_succ (by omega)
    have e4 : (ls.take i).map (·.f2) ++ [(rd_T34 ls (i : Int)).f2] = (ls.take (i + 1)).map (·.f2) := by
      have hl : i < ls.length := by omega
      rw [List.take_succ_eq_append_getElem hl, List.map_append]
      simp only [rd_T34, Int.toNat_natCast, List.getD_eq_getElem?_getD, List.getElem?_eq_getElem hl]
      rfl
    exact Ev.congr (fun k => by rw [e3, e4]) (ih (i + 1) (by omega) (by omega))

theorem graph_Caps_ev (V : Int) (ls : List S34) (hx : ls.length ≤ 17592186044416) : Ev (fun k => graph_Caps.f k V ls) (ls.map (·.f2)) :=
  caps_loop V ls hx ls.length 0 (by omega) (by omega)

theorem graph_Has_eq (V : Int) (ls : List S34) (v : Int) : graph_Has.f V ls v = some (decide (0 ≤ v ∧ v < V)) := by
  unfold graph_Has.f
  by_cases h : v ≥ 0
  · rw [if_pos h]; congr 1; simp; omega
  · rw [if_neg h]; congr 1; simp; omega

theorem caps_sum (ls : List S34) : SumOk (ls.map (·.f2)) ↔ (∀ i : Int, 0 ≤ i → i < (ls.length : Int) → 0 ≤ lC ls i) ∧ S ls.length (lC ls) ≤ 4611686018427387904 := by
  have e : S (ls.map (·.f2)).length (rd (ls.map (·.f2))) = S ls.length (lC ls) := by
    rw [List.length_map]
    exact S_congr (fun i a b => rd_map_cap ls a b)
  unfold SumOk
  rw [e, List.length_map]
  constructor
  · rintro ⟨h1, h2⟩
    exact ⟨fun i a b => by rw [← rd_map_cap ls a b]; exact h1 i a b, h2⟩
  · rintro ⟨h1, h2⟩
    exact ⟨fun i a b => by rw [rd_map_cap ls a b]; exact h1 i a b, h2⟩

/-- link i is fine -/
def LinkOk (V : Int) (ls : List S34) (i : Int) : Prop := (0 ≤ lA ls i ∧ lA ls i < V) ∧ (0 ≤ lB ls i ∧ lB ls i < V) ∧ lA ls i ≠ lB ls i

theorem gok_iff (V : Int) (ls : List S34) : GOk V ls ↔ 2 ≤ V ∧ V ≤ 8 ∧ ls.length ≤ 16 ∧ (∀ i : Int, 0 ≤ i → i < (ls.length : Int) → LinkOk V ls i) ∧ (∀ i : Int, 0 ≤ i → i < (ls.length : Int) → 0 ≤ lC ls i) ∧ S ls.length (lC ls) ≤ 4611686018427387904 := by
  constructor
  · intro h
    exact ⟨h.v2, h.v8, h.m16, fun i a b => h.end_ a b, h.cap, h.sum⟩
  · rintro ⟨h1, h2, h3, h4, h5, h6⟩
    refine ⟨h1, h2, h3, ⟨fun i a b => ?_⟩, h5, h6⟩
    rw [net_V (by omega)]
    exact h4 i a b

theorem may_loop (V : Int) (ls : List S34) (hv : 2 ≤ V ∧ V ≤ 8) (hm : ls.length ≤ 16) (d : Nat) : ∀ (i : Nat), i ≤ ls.length → ls.length - i = d → (∀ j : Int, 0 ≤ j → j < (i : Int) → LinkOk V ls j) →
    Ev (fun k => graph_May.l0 k ls (ls.length : Int) (i : Int) V ls) (decide (GOk V ls)) := by
  induction d with
  | zero =>
    intro i hi hd hp
    obtain rfl : i = ls.length := by omega
    refine Ev.step (fun k => by rw [graph_May.l0]) ?_
    refine Ev.ite_neg (by omega) ?_
    refine Ev.bind (graph_Caps_ev V ls (by omega)) ?_
    refine Ev.bind (rate_Sum_ev _ (by rw [List.length_map]; omega)) ?_
    have : (if SumOk (ls.map (·.f2)) then (S (ls.map (·.f2)).length (rd (ls.map (·.f2))), true) else ((0 : Int), false)).2 = decide (GOk V ls) := by
      by_cases hs : SumOk (ls.map (·.f2))
      · rw [if_pos hs, decide_eq_true]
        rw [gok_iff]
        have := (caps_sum ls).1 hs
        exact ⟨hv.1, hv.2, hm, hp, this.1, this.2⟩
      · rw [if_neg hs, decide_eq_false]
        rw [gok_iff]
        rintro ⟨_, _, _, _, h5, h6⟩
        exact hs ((caps_sum ls).2 ⟨h5, h6⟩)
    rw [this]
    exact Ev.now _
  | succ d ih =>
    intro i hi hd hp
    have no : ¬ LinkOk V ls i → ¬ GOk V ls := fun h g => h (((gok_iff V ls).1 g).2.2.2.1 i (by omega) (by omega))
    refine Ev.step (fun k => by rw [graph_May.l0]) ?_
    refine Ev.ite_pos (by omega) ?_
    refine Ev.ite_pos (by omega) ?_
    refine Ev.ite_pos (by omega) ?_
    refine Ev.call (graph_Has_eq _ _ _) ?_
    by_cases ha : 0 ≤ lA ls i ∧ lA ls i < V
    · refine Ev.ite_pos (decide_eq_true ha) ?_
      refine Ev.call (graph_Has_eq _ _ _) ?_
      by_cases hb : 0 ≤ lB ls i ∧ lB ls i < V
      · refine Ev.ite_pos (decide_eq_true hb) ?_
        by_cases he : lA ls i = lB ls i
        · refine Ev.ite_pos he ?_
          rw [decide_eq_false (no (fun h => h.2.2 he))]
          exact Ev.now _
        · refine Ev.ite_neg he ?_
          have e3 : wrap64 ((i : Int) + 1) = ((i + 1 : Nat) : Int) := wrap_succ (by omega)
          refine Ev.congr (fun k => by rw [e3]) (ih (i + 1) (by omega) (by omega) ?_)
          intro j a b
          by_cases e : j = i
          · subst e; exact ⟨ha, hb, he⟩
          · exact hp j a (by omega)
      · refine Ev.ite_neg (by simp only [decide_eq_true_eq]; exact hb) ?_
        rw [decide_eq_false (no (fun h => hb h.2.1))]
        exact Ev.now _
    · refine Ev.ite_neg (by simp only [decide_eq_true_eq]; exact ha) ?_
      rw [decide_eq_false (no (fun h => ha h.1))]
      exact Ev.now _

theorem graph_May_ev (V : Int) (ls : List S34) : Ev (fun k => graph_May.f k V ls) (decide (GOk V ls)) := by
  have no : ¬ (2 ≤ V ∧ V ≤ 8 ∧ ls.length ≤ 16) → Ev (fun k => graph_May.j0 k true V ls) (decide (GOk V ls)) := by
    intro h
    rw [decide_eq_false (fun g => h ⟨g.v2, g.v8, g.m16⟩)]
    refine Ev.step (fun k => by rw [graph_May.j0]) ?_
    exact Ev.ite_pos rfl (Ev.now _)
  unfold graph_May.f
  by_cases h1 : V < 2
  · exact Ev.ite_pos h1 (no (by omega))
  · refine Ev.ite_neg h1 ?_
    by_cases h2 : V > 8
    · exact Ev.ite_pos h2 (no (by omega))
    · refine Ev.ite_neg h2 ?_
      by_cases h3 : (ls.length : Int) > 16
      · rw [decide_eq_true h3]; exact no (by omega)
      · rw [decide_eq_false h3]
        refine Ev.step (fun k => by rw [graph_May.j0]) ?_
        refine Ev.ite_neg (by simp) ?_
        exact may_loop V ls (by omega) (by omega) ls.length 0 (by omega) (by omega) (fun j a b => by omega)

theorem half {k : Int} (h0 : 0 ≤ k) (h1 : k < 9223372036854775807) : wrap64 (Int.tdiv k 2) = k / 2 := by
  rw [Int.tdiv_eq_ediv_of_nonneg h0, wrap_id (by omega) (by omega)]

theorem odd_ {k : Int} (h0 : 0 ≤ k) : Int.tmod k 2 = k % 2 := Int.tmod_eq_emod_of_nonneg h0

theorem arcs_Ends_eq (V : Int) (ls : List S34) (hm : ls.length ≤ 17592186044416) {k : Int} (h0 : 0 ≤ k) (h1 : k < 2 * (ls.length : Int)) :
    arcs_Ends.f V ls k = some (tail (net V ls) k, head (net V ls) k) := by
  unfold arcs_Ends.f
  rw [half h0 (by omega), odd_ h0, if_pos (by omega), if_pos (by omega)]
  unfold tail head
  by_cases h : k % 2 = 1
  · rw [if_pos h, if_pos h, if_pos h]; rfl
  · rw [if_neg h, if_neg h, if_neg h]; rfl

/-- the arcs below n that begin at v -/
noncomputable def rowTo (N : Net) (v : Int) (n : Nat) : List Int := (ints n).filter (fun k => decide (tail N k = v))

noncomputable def rowOf (N : Net) (v : Int) : List Int := rowTo N v (2 * N.m)

theorem rowTo_succ (N : Net) (v : Int) (n : Nat) : rowTo N v (n + 1) = if tail N (n : Int) = v then rowTo N v n ++ [(n : Int)] else rowTo N v n := by
  unfold rowTo
  rw [ints_succ, List.filter_append]
  by_cases h : tail N (n : Int) = v
  · rw [if_pos h]; simp [h]
  · rw [if_neg h]; simp [h]

theorem rowTo_len (N : Net) (v : Int) (n : Nat) : (rowTo N v n).length ≤ n := by
  unfold rowTo
  have := List.length_filter_le (fun k => decide (tail N k = v)) (ints n)
  rw [ints_len] at this
  exact this

theorem row_loop (V : Int) (ls : List S34) (hm : ls.length ≤ 4096) (v : Int) (d : Nat) : ∀ (i : Nat), i ≤ 2 * ls.length → 2 * ls.length - i = d →
    Ev (fun k => arcs_row.l0 k v (rowTo (net V ls) v i) (2 * (ls.length : Int)) (i : Int) V ls) (rowOf (net V ls) v) := by
  induction d with
  | zero =>
    intro i hi hd
    obtain rfl : i = 2 * ls.length := by omega
    refine Ev.step (fun k => by rw [arcs_row.l0]) ?_
    refine Ev.ite_neg (by omega) ?_
    exact Ev.now _
  | succ d ih =>
    intro i hi hd
    have X := ih (i + 1) (by omega) (by omega)
    have hl := rowTo_len (net V ls) v i
    refine Ev.step (fun k => by rw [arcs_row.l0]) ?_
    refine Ev.ite_pos (by omega) ?_
    refine Ev.call (arcs_Ends_eq V ls (by omega) (by omega) (by omega)) ?_
    rw [rowTo_succ] at X
    have e3 : wrap64 ((i : Int) + 1) = ((i + 1 : Nat) : Int) := wrap_succ (by omega)
    by_cases h : tail (net V ls) (i : Int) = v
    · refine Ev.ite_pos h ?_
      refine Ev.ite_pos (by omega) ?_
      rw [if_pos h] at X
      exact Ev.congr (fun k => by rw [e3]) X
    · refine Ev.ite_neg h ?_
      rw [if_neg h] at X
      exact Ev.congr (fun k => by rw [e3]) X

theorem twice_ {ls : List S34} (hm : ls.length ≤ 4096) : wrap64 (2 * (ls.length : Int)) = 2 * (ls.length : Int) := wrap_id (by omega) (by omega)

theorem arcs_row_ev (V : Int) (ls : List S34) (hm : ls.length ≤ 4096) (v : Int) : Ev (fun k => arcs_row.f k V ls v) (rowOf (net V ls) v) := by
  unfold arcs_row.f
  rw [twice_ hm]
  exact row_loop V ls hm v (2 * ls.length) 0 (by omega) (by omega)

/-- the rows of the vertices below v, one behind the other -/
noncomputable def rowsTo (N : Net) : Nat → List Int
  | 0 => []
  | v + 1 => rowsTo N v ++ rowOf N (v : Int)

noncomputable def startAt (N : Net) (v : Int) : Int := ((rowsTo N v.toNat).length : Int)

noncomputable def starts (N : Net) : List Int := tab (N.V + 1) (startAt N)

noncomputable def order (N : Net) : List Int := rowsTo N N.V

noncomputable def heads (N : Net) : List Int := tab (2 * N.m) (head N)

theorem rowsTo_len (N : Net) (v : Nat) : (rowsTo N v).length ≤ v * (2 * N.m) := by
  induction v with
  | zero => simp [rowsTo]
  | succ v ih =>
    simp only [rowsTo, List.length_append]
    have := rowTo_len N v (2 * N.m)
    unfold rowOf
    have e : (v + 1) * (2 * N.m) = v * (2 * N.m) + 2 * N.m := Nat.succ_mul v (2 * N.m)
    omega

theorem build_heads (V : Int) (ls : List S34) (hm : ls.length ≤ 16) {r : List Int × List Int × List Int × Int} (hr : Ev (fun k => arcs_Build.l1 k V 0 V ls [] [] (heads (net V ls))) r) (d : Nat) : ∀ (i : Nat), i ≤ 2 * ls.length → 2 * ls.length - i = d →
    Ev (fun k => arcs_Build.l0 k (2 * (ls.length : Int)) (i : Int) V ls (tab i (head (net V ls)))) r := by
  induction d with
  | zero =>
    intro i hi hd
    obtain rfl : i = 2 * ls.length := by omega
    refine Ev.step (fun k => by rw [arcs_Build.l0]) ?_
    refine Ev.ite_neg (by omega) ?_
    exact hr
  | succ d ih =>
    intro i hi hd
    have X := ih (i + 1) (by omega) (by omega)
    refine Ev.step (fun k => by rw [arcs_Build.l0]) ?_
    refine Ev.ite_pos (by omega) ?_
    refine Ev.call (arcs_Ends_eq V ls (by omega) (by omega) (by omega)) ?_
    refine Ev.ite_pos (by rw [tab_len]; omega) ?_
    rw [tab_succ] at X
    have e3 : wrap64 ((i : Int) + 1) = ((i + 1 : Nat) : Int) := wrap_succ (by omega)
    exact Ev.congr (fun k => by rw [e3]) X

theorem build_rows (V : Int) (ls : List S34) (hv : 0 ≤ V ∧ V ≤ 8) (hm : ls.length ≤ 16) (hs : List Int) (d : Nat) : ∀ (i : Nat), (i : Int) ≤ V → V.toNat - i = d →
    Ev (fun k => arcs_Build.l1 k V (i : Int) V ls (tab i (startAt (net V ls))) (rowsTo (net V ls) i) hs) (starts (net V ls), order (net V ls), hs, 0) := by
  induction d with
  | zero =>
    intro i hi hd
    have hiV : (i : Int) = V := by omega
    refine Ev.step (fun k => by rw [arcs_Build.l1]) ?_
    refine Ev.ite_neg (by omega) ?_
    refine Ev.ite_pos (by rw [tab_len]; omega) ?_
    have hV : (net V ls).V = i := by simp only [net]; omega
    have e1 : tab i (startAt (net V ls)) ++ [((rowsTo (net V ls) i).length : Int)] = starts (net V ls) := by
      unfold starts; rw [hV, tab_succ]; simp [startAt]
    have e2 : rowsTo (net V ls) i = order (net V ls) := by unfold order; rw [hV]
    rw [e1, e2]
    exact Ev.now _
  | succ d ih =>
    intro i hi hd
    have X := ih (i + 1) (by omega) (by omega)
    have hl := rowsTo_len (net V ls) i
    have hl2 := rowTo_len (net V ls) i (2 * (net V ls).m)
    have hl3 : i * (2 * (net V ls).m) ≤ 8 * 32 := Nat.mul_le_mul (by omega) (by rw [net_m]; omega)
    have hl4 : (net V ls).m ≤ 16 := by rw [net_m]; exact hm
    refine Ev.step (fun k => by rw [arcs_Build.l1]) ?_
    refine Ev.ite_pos (by omega) ?_
    refine Ev.ite_pos (by rw [tab_len]; omega) ?_
    refine Ev.bind (arcs_row_ev V ls (by omega) (i : Int)) ?_
    refine Ev.ite_pos (by unfold rowOf; omega) ?_
    rw [tab_succ] at X
    have e3 : wrap64 ((i : Int) + 1) = ((i + 1 : Nat) : Int) := wrap_succ (by omega)
    have e4 : startAt (net V ls) (i : Int) = ((rowsTo (net V ls) i).length : Int) := by simp [startAt]
    rw [e4] at X
    exact Ev.congr (fun k => by rw [e3]; rfl) X

theorem arcs_Build_ev (V : Int) (ls : List S34) : Ev (fun k => arcs_Build.f k V ls) (if GOk V ls then (starts (net V ls), order (net V ls), heads (net V ls), 0) else ([], [], [], 500)) := by
  unfold arcs_Build.f
  refine Ev.bind (graph_May_ev V ls) ?_
  by_cases h : GOk V ls
  · refine Ev.ite_pos (decide_eq_true h) ?_
    rw [if_pos h, twice_ (by have := h.m16; omega)]
    refine build_heads V ls h.m16 ?_ (2 * ls.length) 0 (by omega) (by omega)
    exact build_rows V ls ⟨by have := h.v2; omega, h.v8⟩ h.m16 _ V.toNat 0 (by have := h.v2; omega) (by omega)
  · refine Ev.ite_neg (by simp only [decide_eq_true_eq]; exact h) ?_
    rw [if_neg h]
    exact Ev.now _

theorem starts_len (N : Net) : (starts N).length = N.V + 1 := tab_len _ _

theorem heads_len (N : Net) : (heads N).length = 2 * N.m := tab_len _ _

theorem rd_heads (N : Net) {k : Int} (h0 : 0 ≤ k) (h1 : k < 2 * (N.m : Int)) : rd (heads N) k = head N k := rd_tab h0 (by omega)

theorem same_loop (xs ys : List Int) (hl : xs.length = ys.length) (hx : xs.length ≤ 17592186044416) (d : Nat) : ∀ (i : Nat), i ≤ xs.length → xs.length - i = d → (∀ j : Int, 0 ≤ j → j < (i : Int) → rd xs j = rd ys j) →
    Ev (fun k => tollbarref19_SameInts.l0 k xs ys (i : Int)) (decide (xs = ys)) := by
  induction d with
  | zero =>
    intro i hi hd hp
    obtain rfl : i = xs.length := by omega
    refine Ev.step (fun k => by rw [tollbarref19_SameInts.l0]) ?_
    refine Ev.ite_neg (by omega) ?_
    rw [decide_eq_true (rd_ext hl hp)]
    exact Ev.now _
  | succ d ih =>
    intro i hi hd hp
    refine Ev.step (fun k => by rw [tollbarref19_SameInts.l0]) ?_
    refine Ev.ite_pos (by omega) ?_
    refine Ev.ite_pos (by omega) ?_
    refine Ev.ite_pos (by omega) ?_
    by_cases h : rd xs i = rd ys i
    · refine Ev.ite_pos h ?_
      have X := ih (i + 1) (by omega) (by omega) (fun j a b => by
        by_cases e : j = i
        · subst e; exact h
        · exact hp j a (by omega))
      have e3 : wrap64 ((i : Int) + 1) = ((i + 1 : Nat) : Int) := wrap_succ (by omega)
      exact Ev.congr (fun k => by rw [e3]) X
    · refine Ev.ite_neg h ?_
      rw [decide_eq_false (fun e => h (by rw [e]))]
      exact Ev.now _

theorem ref_SameInts_ev (xs ys : List Int) (hx : xs.length ≤ 17592186044416) : Ev (fun k => tollbarref19_SameInts.f k xs ys) (decide (xs = ys)) := by
  unfold tollbarref19_SameInts.f
  by_cases hl : xs.length = ys.length
  · refine Ev.ite_pos (by omega) ?_
    exact same_loop xs ys hl hx xs.length 0 (by omega) (by omega) (fun j a b => by omega)
  · refine Ev.ite_neg (by omega) ?_
    rw [decide_eq_false (fun e => hl (by rw [e]))]
    exact Ev.now _

theorem SameInts_ev (xs ys : List Int) (hx : xs.length ≤ 17592186044416) : Ev (fun k => tollbarlaw0_SameInts.f k xs ys) (decide (xs = ys)) := by
  unfold tollbarlaw0_SameInts.f
  exact Ev.bind (ref_SameInts_ev xs ys hx) (Ev.now _)

theorem SameInts_self (xs : List Int) (hx : xs.length ≤ 17592186044416) : Ev (fun k => tollbarlaw0_SameInts.f k xs xs) true := by
  have := SameInts_ev xs xs hx
  rwa [decide_eq_true rfl] at this

theorem CopyGraph_eq (V : Int) (ls : List S34) (hx : ls.length < 5864062014805) : tollbarlaw0_CopyGraph.f V ls = some (V, ls) := by
  unfold tollbarlaw0_CopyGraph.f
  simp only [Option.bind_some]
  rw [if_pos (by simpa using hx)]
  rfl

def swl (x : S34) : S34 := ⟨x.f1, x.f0, x.f2⟩

theorem gd_some {xs : List S34} {j : Nat} {v : S34} (h : xs[j]? = some v) : xs.getD j z34 = v := by
  rw [List.getD_eq_getElem?_getD, h]; rfl

theorem swl_gd (ls : List S34) (j : Nat) : (ls.map swl).getD j z34 = swl (ls.getD j z34) := by
  rw [List.getD_eq_getElem?_getD, List.getElem?_map, List.getD_eq_getElem?_getD]
  cases ls[j]? <;> rfl

theorem lA_swl (ls : List S34) : lA (ls.map swl) = lB ls := by
  funext i; unfold lA lB rd_T34; rw [swl_gd]; rfl

theorem lB_swl (ls : List S34) : lB (ls.map swl) = lA ls := by
  funext i; unfold lA lB rd_T34; rw [swl_gd]; rfl

theorem lC_swl (ls : List S34) : lC (ls.map swl) = lC ls := by
  funext i; unfold lC rd_T34; rw [swl_gd]; rfl

theorem GOk.swl {V : Int} {ls : List S34} (h : GOk V ls) : GOk V (ls.map swl) := by
  refine (gok_iff V _).2 ⟨h.v2, h.v8, by rw [List.length_map]; exact h.m16, fun i a b => ?_, fun i a b => ?_, ?_⟩
  · rw [List.length_map] at b
    unfold LinkOk
    rw [lA_swl, lB_swl]
    have := h.end_ a b
    exact ⟨this.2.1, this.1, fun e => this.2.2 e.symm⟩
  · rw [List.length_map] at b
    rw [lC_swl]; exact h.cap i a b
  · rw [lC_swl, List.length_map]; exact h.sum

def mixed (ls : List S34) (i : Nat) : List S34 := (List.range ls.length).map (fun j => if j < i then swl (ls.getD j z34) else ls.getD j z34)

theorem mixed_len (ls : List S34) (i : Nat) : (mixed ls i).length = ls.length := by simp [mixed]

theorem mixed_gd {ls : List S34} {i j : Nat} (h : j < ls.length) : (mixed ls i).getD j z34 = if j < i then swl (ls.getD j z34) else ls.getD j z34 := by
  refine gd_some ?_
  unfold mixed
  rw [List.getElem?_map, List.getElem?_range h]
  rfl

theorem mixed_zero (ls : List S34) : mixed ls 0 = ls := by
  refine gd_ext z34 (mixed_len _ _) (fun j h => ?_)
  rw [mixed_len] at h
  rw [mixed_gd h, if_neg (by omega)]

theorem mixed_all (ls : List S34) : mixed ls ls.length = ls.map swl := by
  refine gd_ext z34 (by rw [mixed_len, List.length_map]) (fun j h => ?_)
  rw [mixed_len] at h
  rw [mixed_gd h, if_pos h, swl_gd]

theorem mixed_step {ls : List S34} {i : Nat} (hi : i < ls.length) (x y : S34) (hy : y = swl (ls.getD i z34)) : ((mixed ls i).set i x).set i y = mixed ls (i + 1) := by
  refine gd_ext z34 (by rw [List.length_set, List.length_set, mixed_len, mixed_len]) (fun j h => ?_)
  rw [List.length_set, List.length_set, mixed_len] at h
  rw [mixed_gd h]
  by_cases e : j = i
  · rw [e, gd_set_eq (by rw [List.length_set, mixed_len]; exact hi), if_pos (by omega), hy]
  · rw [gd_set_ne (fun g => e g.symm), gd_set_ne (fun g => e g.symm), mixed_gd h]
    by_cases g : j < i
    · rw [if_pos g, if_pos (by omega)]
    · rw [if_neg g, if_neg (by omega)]

theorem awake5T : Ev (fun k => tollbarlaw5_awake.f k) true := Ev.of tollbarlaw5_awake.mono (k := 100) (by decide +kernel)

theorem Num_eq5T (x : Int) : tollbarlaw0_Num.f x = some x := rfl

theorem net_swl (V : Int) (ls : List S34) : net V (ls.map swl) = (net V ls).turn := by
  unfold net Net.turn
  rw [lA_swl, lB_swl, List.length_map]

theorem row_turn (N : Net) (v : Int) (i : Nat) : (rowTo N.turn v (2 * i)).length = (rowTo N v (2 * i)).length := by
  induction i with
  | zero => rfl
  | succ i ih =>
    have e1 : tail N.turn ((2 * i : Nat) : Int) = tail N ((2 * i + 1 : Nat) : Int) := by
      unfold tail Net.turn
      rw [if_neg (by omega), if_pos (by omega)]
      show N.b _ = N.b _
      congr 1; omega
    have e2 : tail N.turn ((2 * i + 1 : Nat) : Int) = tail N ((2 * i : Nat) : Int) := by
      unfold tail Net.turn
      rw [if_pos (by omega), if_neg (by omega)]
      show N.a _ = N.a _
      congr 1; omega
    rw [show 2 * (i + 1) = 2 * i + 1 + 1 by omega, rowTo_succ, rowTo_succ, rowTo_succ N v (2 * i + 1), rowTo_succ N v (2 * i), e1, e2]
    by_cases c1 : tail N ((2 * i : Nat) : Int) = v <;> by_cases c2 : tail N ((2 * i + 1 : Nat) : Int) = v
    · rw [if_pos c1, if_pos c2, if_pos c1, if_pos c2]; simp [ih]
    · rw [if_pos c1, if_neg c2, if_pos c1, if_neg c2]; simp [ih]
    · rw [if_neg c1, if_pos c2, if_neg c1, if_pos c2]; simp [ih]
    · rw [if_neg c1, if_neg c2, if_neg c1, if_neg c2]; exact ih

theorem rows_turn (N : Net) (v : Nat) : (rowsTo N.turn v).length = (rowsTo N v).length := by
  induction v with
  | zero => rfl
  | succ v ih =>
    show (rowsTo N.turn v ++ rowOf N.turn (v : Int)).length = (rowsTo N v ++ rowOf N (v : Int)).length
    rw [List.length_append, List.length_append, ih]
    congr 1
    exact row_turn N v N.m

theorem starts_turn (N : Net) : starts N.turn = starts N := by
  refine eq_tab (tab_len _ _) (fun v a b => ?_)
  show rd (tab (N.V + 1) (startAt N.turn)) v = _
  rw [rd_tab a b]
  unfold startAt
  rw [rows_turn]

theorem turned_pairs {V : Int} {ls : List S34} (hm : ls.length ≤ 16) (hb : (starts (net V ls)).length ≤ 17592186044416) (o o2 : List Int) (d : Nat) : ∀ (i : Nat), i ≤ ls.length → ls.length - i = d →
    Ev (fun k => tollbarlaw5_ArcsTurned.l1 k (i : Int) V ls (starts (net V ls)) o (heads (net V ls)) (starts (net V ls)) o2 (heads (net V ls).turn)) true := by
  have hl1 : (heads (net V ls)).length = 2 * ls.length := heads_len _
  have hl2 : (heads (net V ls).turn).length = 2 * ls.length := heads_len _
  induction d with
  | zero =>
    intro i hi hd
    obtain rfl : i = ls.length := by omega
    refine Ev.step (fun k => by rw [tollbarlaw5_ArcsTurned.l1]) ?_
    refine Ev.ite_neg (by omega) ?_
    refine Ev.bind awake5T (Ev.ite_pos rfl ?_)
    exact Ev.bind (SameInts_self _ hb) (Ev.now _)
  | succ d ih =>
    intro i hi hd
    have X := ih (i + 1) (by omega) (by omega)
    have r1 : rd (heads (net V ls)) (2 * (i : Int)) = lB ls (i : Int) := by
      rw [rd_heads _ (by omega) (by show 2 * (i : Int) < 2 * (ls.length : Int); omega)]
      unfold head
      rw [if_neg (by omega)]
      show lB ls _ = _
      congr 1; omega
    have r2 : rd (heads (net V ls)) (2 * (i : Int) + 1) = lA ls (i : Int) := by
      rw [rd_heads _ (by omega) (by show 2 * (i : Int) + 1 < 2 * (ls.length : Int); omega)]
      unfold head
      rw [if_pos (by omega)]
      show lA ls _ = _
      congr 1; omega
    have r3 : rd (heads (net V ls).turn) (2 * (i : Int)) = lA ls (i : Int) := by
      rw [rd_heads _ (by omega) (by show 2 * (i : Int) < 2 * (ls.length : Int); omega)]
      unfold head
      rw [if_neg (by omega)]
      show lA ls _ = _
      congr 1; omega
    have r4 : rd (heads (net V ls).turn) (2 * (i : Int) + 1) = lB ls (i : Int) := by
      rw [rd_heads _ (by omega) (by show 2 * (i : Int) + 1 < 2 * (ls.length : Int); omega)]
      unfold head
      rw [if_pos (by omega)]
      show lB ls _ = _
      congr 1; omega
    refine Ev.step (fun k => by rw [tollbarlaw5_ArcsTurned.l1]) ?_
    rw [wrap_id (x := 2 * (i : Int)) (by omega) (by omega), wrap_id (x := 2 * (i : Int) + 1) (by omega) (by omega), r1, r2, r3, r4]
    refine Ev.ite_pos (by omega) (Ev.ite_pos (by omega) (Ev.ite_pos (by omega) (Ev.ite_pos (by omega) (Ev.ite_pos (by omega) (Ev.ite_pos rfl (Ev.ite_pos (by omega) (Ev.ite_pos (by omega) (Ev.ite_pos rfl ?_))))))))
    exact Ev.congr (fun k => by rw [wrap_succ (by omega)]) X

theorem turned_loop {V : Int} {ls : List S34} (hg : GOk V ls) (d : Nat) :
    ∀ (i : Nat), i ≤ ls.length → ls.length - i = d → Ev (fun k => tollbarlaw5_ArcsTurned.l0 k (i : Int) V ls (starts (net V ls)) (order (net V ls)) (heads (net V ls)) V (mixed ls i)) true := by
  have hm := hg.m16
  have hv8 := hg.v8
  induction d with
  | zero =>
    intro i hi hd
    obtain rfl : i = ls.length := by omega
    have hl1 : (heads (net V ls)).length = 2 * ls.length := heads_len _
    have hl2 : (heads (net V ls).turn).length = 2 * ls.length := heads_len _
    have hb : (starts (net V ls)).length ≤ 17592186044416 := by
      rw [starts_len]
      show V.toNat + 1 ≤ _
      omega
    have B := arcs_Build_ev V (ls.map swl)
    rw [if_pos hg.swl, net_swl, starts_turn] at B
    refine Ev.step (fun k => by rw [tollbarlaw5_ArcsTurned.l0]) ?_
    refine Ev.ite_neg (by rw [mixed_len]; omega) ?_
    rw [mixed_all]
    refine Ev.bind B ?_
    refine Ev.call (Num_eq5T _) (Ev.ite_pos rfl ?_)
    refine Ev.ite_pos (by show ((heads (net V ls)).length : Int) = ((heads (net V ls).turn).length : Int); omega) ?_
    refine Ev.step (fun k => by rw [tollbarlaw5_ArcsTurned.j1]) ?_
    refine Ev.ite_neg ?_ ?_
    · rw [wrap_id (by omega) (by omega), hl1]
      simp
    · exact turned_pairs hm hb _ _ ls.length 0 (by omega) (by omega)
  | succ d ih =>
    intro i hi hd
    have X := ih (i + 1) (by omega) (by omega)
    have hlt : i < ls.length := by omega
    have hg1 : rd_T34 (mixed ls i) (i : Int) = ls.getD i z34 := by
      unfold rd_T34
      rw [Int.toNat_natCast, mixed_gd hlt, if_neg (by omega)]
    have hg2 : rd_T34 ls (i : Int) = ls.getD i z34 := by unfold rd_T34; rw [Int.toNat_natCast]
    have hg3 : ∀ x : S34, rd_T34 ((mixed ls i).set i x) (i : Int) = x := fun x => by
      unfold rd_T34
      rw [Int.toNat_natCast, gd_set_eq (by rw [mixed_len]; exact hlt)]
    refine Ev.step (fun k => by rw [tollbarlaw5_ArcsTurned.l0]) ?_
    refine Ev.ite_pos (by rw [mixed_len]; omega) ?_
    refine Ev.ite_pos (by omega) ?_
    refine Ev.ite_pos (by omega) ?_
    refine Ev.call rfl ?_
    rw [Int.toNat_natCast, hg1, hg2, hg3]
    have es : ((mixed ls i).set i (⟨(ls.getD i z34).f1, (ls.getD i z34).f1, (ls.getD i z34).f2⟩ : S34)).set i (⟨(ls.getD i z34).f1, (ls.getD i z34).f0, (ls.getD i z34).f2⟩ : S34) = mixed ls (i + 1) := mixed_step hlt _ _ rfl
    show Ev (fun n => tollbarlaw5_ArcsTurned.l0 n (wrap64 ((i : Int) + 1)) V ls (starts (net V ls)) (order (net V ls)) (heads (net V ls)) V (((mixed ls i).set i (⟨(ls.getD i z34).f1, (ls.getD i z34).f1, (ls.getD i z34).f2⟩ : S34)).set i (⟨(ls.getD i z34).f1, (ls.getD i z34).f0, (ls.getD i z34).f2⟩ : S34))) true
    rw [es]
    exact Ev.congr (fun k => by rw [wrap_succ (by omega)]) X

theorem ArcsTurned (V : Int) (ls : List S34) : Ev (fun k => tollbarlaw5_ArcsTurned.f k V ls) true := by
  unfold tollbarlaw5_ArcsTurned.f
  refine Ev.bind (arcs_Build_ev V ls) ?_
  by_cases h : GOk V ls
  · rw [if_pos h]
    have hm := h.m16
    refine Ev.call (Num_eq5T _) (Ev.ite_pos rfl ?_)
    refine Ev.call (CopyGraph_eq V ls (by omega)) ?_
    have X := turned_loop h ls.length 0 (by omega) (by omega)
    rw [mixed_zero] at X
    exact X
  · rw [if_neg h]
    refine Ev.call (Num_eq5T _) (Ev.ite_neg (by decide) ?_)
    exact Ev.now _

end Go.Proofs.Ytbbdbnikogmidab.Q
end
