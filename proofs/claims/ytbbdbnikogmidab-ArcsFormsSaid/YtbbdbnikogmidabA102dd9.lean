/- Texts of this claim, one behind the other: QArcsForms. -/
import Derived.Test.YtbbdbnikogmidabAe77284
import Derived.Test.YtbbdbnikogmidabAed22b2
import Derived.Test.YtbbdbnikogmidabAd94d68
import Derived.Test.YtbbdbnikogmidabA6b5ae2
import Derived.Test.YtbbdbnikogmidabAe434a3
section
/- What the law ArcsForms leans on, and the law itself on what its printed walk tells: plain. -/
namespace Go.Proofs.Ytbbdbnikogmidab.Q
open Go.RowKit Go.Proofs.YtbbdbnikogmidabW.PrintWords Go.Proofs.YtbbdbnikogmidabW.PrintMore Go.Proofs.Ytbbdbnikogmidab.PAll Go.Proofs.Ytbbdbnikogmidab.Plain
set_option linter.unusedVariables false
set_option linter.unusedSimpArgs false
attribute [local instance] Classical.propDecidable

theorem S_prefix {f : Int → Int} {n m : Nat} (h : ∀ i : Int, 0 ≤ i → i < (m : Int) → 0 ≤ f i) (hn : n ≤ m) : S n f ≤ S m f := by
  induction m with
  | zero => obtain rfl : n = 0 := by omega
            exact Int.le_refl _
  | succ m ih =>
    by_cases e : n = m + 1
    · subst e; exact Int.le_refl _
    · have h1 := ih (fun i a b => h i a (by omega)) (by omega)
      have h2 := h (m : Int) (by omega) (by omega)
      simp only [S]
      omega

theorem rate_Is_eq (x : Int) : rate_Is.f x = some (decide (0 ≤ x ∧ x ≤ 4611686018427387904)) := by
  unfold rate_Is.f
  by_cases h : x ≥ 0
  · rw [if_pos h]; congr 1; simp; omega
  · rw [if_neg h]; congr 1; simp; omega

def SumOk (xs : List Int) : Prop := (∀ i : Int, 0 ≤ i → i < (xs.length : Int) → 0 ≤ rd xs i) ∧ S xs.length (rd xs) ≤ 4611686018427387904

theorem sum_loop (xs : List Int) (hx : xs.length ≤ 4611686018427387904) (d : Nat) : ∀ (i : Nat), i ≤ xs.length → xs.length - i = d → (∀ j : Int, 0 ≤ j → j < (i : Int) → 0 ≤ rd xs j) → S i (rd xs) ≤ 4611686018427387904 →
    Ev (fun k => rate_Sum.l0 k (S i (rd xs)) xs (xs.length : Int) (i : Int)) (if SumOk xs then (S xs.length (rd xs), true) else (0, false)) := by
  induction d with
  | zero =>
    intro i hi hd hp hs
    obtain rfl : i = xs.length := by omega
    refine Ev.step (fun k => by rw [rate_Sum.l0]) ?_
    refine Ev.ite_neg (by omega) ?_
    rw [if_pos ⟨hp, hs⟩]
    exact Ev.now _
  | succ d ih =>
    intro i hi hd hp hs
    have h0 : 0 ≤ S i (rd xs) := S_nonneg hp
    refine Ev.step (fun k => by rw [rate_Sum.l0]) ?_
    refine Ev.ite_pos (by omega) ?_
    refine Ev.ite_pos (by omega) ?_
    refine Ev.ite_pos (by omega) ?_
    refine Ev.call (rate_Is_eq _) ?_
    by_cases hr : 0 ≤ rd xs i ∧ rd xs i ≤ 4611686018427387904
    · refine Ev.ite_pos (decide_eq_true hr) ?_
      by_cases hm : rd xs i > 4611686018427387904 - S i (rd xs)
      · refine Ev.ite_pos (by rw [wrap_id (by omega) (by omega)]; exact hm) ?_
        rw [if_neg]
        · exact Ev.now _
        · intro ho
          have := S_prefix (n := i + 1) ho.1 (by omega)
          simp only [S] at this
          have := ho.2
          omega
      · refine Ev.ite_neg (by rw [wrap_id (by omega) (by omega)]; exact hm) ?_
        have e2 : wrap64 (S i (rd xs) + rd xs i) = S (i + 1) (rd xs) := by rw [wrap_id (by omega) (by omega)]; rfl
        have e3 : wrap64 ((i : Int) + 1) = ((i + 1 : Nat) : Int) := wrap_succ (by omega)
        refine Ev.congr (fun k => by rw [e2, e3]) (ih (i + 1) (by omega) (by omega) ?_ ?_)
        · intro j a b
          by_cases e : j = i
          · subst e; exact hr.1
          · exact hp j a (by omega)
        · simp only [S]; omega
    · refine Ev.ite_neg (by simp only [decide_eq_true_eq]; exact hr) ?_
      rw [if_neg]
      · exact Ev.now _
      · intro ho
        have h1 := ho.1 i (by omega) (by omega)
        have := S_one_le ho.1 (k := (i : Int)) (by omega) (by omega)
        have := ho.2
        exact hr ⟨h1, by omega⟩

theorem rate_Sum_ev (xs : List Int) (hx : xs.length ≤ 4611686018427387904) : Ev (fun k => rate_Sum.f k xs) (if SumOk xs then (S xs.length (rd xs), true) else (0, false)) :=
  sum_loop xs hx xs.length 0 (by omega) (by omega) (fun j a b => by omega) (by simp [S])

def lA (ls : List S34) (i : Int) : Int := (rd_T34 ls i).f0

def lB (ls : List S34) (i : Int) : Int := (rd_T34 ls i).f1

def lC (ls : List S34) (i : Int) : Int := (rd_T34 ls i).f2

def net (V : Int) (ls : List S34) : Net := { V := V.toNat, m := ls.length, a := lA ls, b := lB ls }

structure GOk (V : Int) (ls : List S34) : Prop where
  v2 : 2 ≤ V
  v8 : V ≤ 8
  m16 : ls.length ≤ 16
  ends : (net V ls).ok
  cap : ∀ i : Int, 0 ≤ i → i < (ls.length : Int) → 0 ≤ lC ls i
  sum : S ls.length (lC ls) ≤ 4611686018427387904

theorem net_V {V : Int} {ls : List S34} (h : 0 ≤ V) : ((net V ls).V : Int) = V := by simp only [net]; omega

theorem GOk.end_ {V : Int} {ls : List S34} (h : GOk V ls) {i : Int} (h0 : 0 ≤ i) (h1 : i < (ls.length : Int)) : (0 ≤ lA ls i ∧ lA ls i < V) ∧ (0 ≤ lB ls i ∧ lB ls i < V) ∧ lA ls i ≠ lB ls i := by
  have := h.ends.h i h0 h1
  have e := net_V (V := V) (ls := ls) (by have := h.v2; omega)
  rw [e] at this
  exact this

theorem rd_map_cap (ls : List S34) {i : Int} (h0 : 0 ≤ i) (h1 : i < (ls.length : Int)) : rd (ls.map (·.f2)) i = lC ls i := by
  unfold rd lC rd_T34
  have hl : i.toNat < ls.length := by omega
  simp only [List.getD_eq_getElem?_getD, List.getElem?_map, List.getElem?_eq_getElem hl]
  rfl

theorem caps_loop (V : Int) (ls : List S34) (hx : ls.length ≤ 17592186044416) (d : Nat) : ∀ (i : Nat), i ≤ ls.length → ls.length - i = d →
    Ev (fun k => graph_Caps.l0 k ((ls.take i).map (·.f2)) ls (ls.length : Int) (i : Int)) (ls.map (·.f2)) := by
  induction d with
  | zero =>
    intro i hi hd
    obtain rfl : i = ls.length := by omega
    refine Ev.step (fun k => by rw [graph_Caps.l0]) ?_
    refine Ev.ite_neg (by omega) ?_
    rw [List.take_length]
    exact Ev.now _
  | succ d ih =>
    intro i hi hd
    refine Ev.step (fun k => by rw [graph_Caps.l0]) ?_
    refine Ev.ite_pos (by omega) ?_
    refine Ev.ite_pos (by omega) ?_
    refine Ev.ite_pos (by omega) ?_
    refine Ev.ite_pos (by simp; omega) ?_
    have e3 : wrap64 ((i : Int) + 1) = ((i + 1 : Nat) : Int) := wrap_succ (by omega)
    have e4 : (ls.take i).map (·.f2) ++ [(rd_T34 ls (i : Int)).f2] = (ls.take (i + 1)).map (·.f2) := by
      have hl : i < ls.length := by omega
      rw [List.take_succ_eq_append_getElem hl, List.map_append]
      simp only [rd_T34, Int.toNat_natCast, List.getD_eq_getElem?_getD, List.getElem?_eq_getElem hl]
      rfl
    exact Ev.congr (fun k => by rw [e3, e4]) (ih (i + 1) (by omega) (by omega))

theorem graph_Caps_ev (V : Int) (ls : List S34) (hx : ls.length ≤ 17592186044416) : Ev (fun k => graph_Caps.f k V ls) (ls.map (·.f2)) :=
  caps_loop V ls hx ls.length 0 (by omega) (by omega)

theorem graph_Has_eq (V : Int) (ls : List S34) (v : Int) : graph_Has.f V ls v = some (decide (0 ≤ v ∧ v < V)) := by
  unfold graph_Has.f
  by_cases h : v ≥ 0
  · rw [if_pos h]; congr 1; simp; omega
  · rw [if_neg h]; congr 1; simp; omega

theorem caps_sum (ls : List S34) : SumOk (ls.map (·.f2)) ↔ (∀ i : Int, 0 ≤ i → i < (ls.length : Int) → 0 ≤ lC ls i) ∧ S ls.length (lC ls) ≤ 4611686018427387904 := by
  have e : S (ls.map (·.f2)).length (rd (ls.map (·.f2))) = S ls.length (lC ls) := by
    rw [List.length_map]
    exact S_congr (fun i a b => rd_map_cap ls a b)
  unfold SumOk
  rw [e, List.length_map]
  constructor
  · rintro ⟨h1, h2⟩
    exact ⟨fun i a b => by rw [← rd_map_cap ls a b]; exact h1 i a b, h2⟩
  · rintro ⟨h1, h2⟩
    exact ⟨fun i a b => by rw [rd_map_cap ls a b]; exact h1 i a b, h2⟩

/-- link i is fine -/
def LinkOk (V : Int) (ls : List S34) (i : Int) : Prop := (0 ≤ lA ls i ∧ lA ls i < V) ∧ (0 ≤ lB ls i ∧ lB ls i < V) ∧ lA ls i ≠ lB ls i

theorem gok_iff (V : Int) (ls : List S34) : GOk V ls ↔ 2 ≤ V ∧ V ≤ 8 ∧ ls.length ≤ 16 ∧ (∀ i : Int, 0 ≤ i → i < (ls.length : Int) → LinkOk V ls i) ∧ (∀ i : Int, 0 ≤ i → i < (ls.length : Int) → 0 ≤ lC ls i) ∧ S ls.length (lC ls) ≤ 4611686018427387904 := by
  constructor
  · intro h
    exact ⟨h.v2, h.v8, h.m16, fun i a b => h.end_ a b, h.cap, h.sum⟩
  · rintro ⟨h1, h2, h3, h4, h5, h6⟩
    refine ⟨h1, h2, h3, ⟨fun i a b => ?_⟩, h5, h6⟩
    rw [net_V (by omega)]
    exact h4 i a b

theorem may_loop (V : Int) (ls : List S34) (hv : 2 ≤ V ∧ V ≤ 8) (hm : ls.length ≤ 16) (d : Nat) : ∀ (i : Nat), i ≤ ls.length → ls.length - i = d → (∀ j : Int, 0 ≤ j → j < (i : Int) → LinkOk V ls j) →
    Ev (fun k => graph_May.l0 k ls (ls.length : Int) (i : Int) V ls) (decide (GOk V ls)) := by
  induction d with
  | zero =>
    intro i hi hd hp
    obtain rfl : i = ls.length := by omega
    refine Ev.step (fun k => by rw [graph_May.l0]) ?_
    refine Ev.ite_neg (by omega) ?_
    refine Ev.bind (graph_Caps_ev V ls (by omega)) ?_
    refine Ev.bind (rate_Sum_ev _ (by rw [List.length_map]; omega)) ?_
    have : (if SumOk (ls.map (·.f2)) then (S (ls.map (·.f2)).length (rd (ls.map (·.f2))), true) else ((0 : Int), false)).2 = decide (GOk V ls) := by
      by_cases hs : SumOk (ls.map (·.f2))
      · rw [if_pos hs, decide_eq_true]
        rw [gok_iff]
        have := (caps_sum ls).1 hs
        exact ⟨hv.1, hv.2, hm, hp, this.1, this.2⟩
      · rw [if_neg hs, decide_eq_false]
        rw [gok_iff]
        rintro ⟨_, _, _, _, h5, h6⟩
        exact hs ((caps_sum ls).2 ⟨h5, h6⟩)
    rw [this]
    exact Ev.now _
  | succ d ih =>
    intro i hi hd hp
    have no : ¬ LinkOk V ls i → ¬ GOk V ls := fun h g => h (((gok_iff V ls).1 g).2.2.2.1 i (by omega) (by omega))
    refine Ev.step (fun k => by rw [graph_May.l0]) ?_
    refine Ev.ite_pos (by omega) ?_
    refine Ev.ite_pos (by omega) ?_
    refine Ev.ite_pos (by omega) ?_
    refine Ev.call (graph_Has_eq _ _ _) ?_
    by_cases ha : 0 ≤ lA ls i ∧ lA ls i < V
    · refine Ev.ite_pos (decide_eq_true ha) ?_
      refine Ev.call (graph_Has_eq _ _ _) ?_
      by_cases hb : 0 ≤ lB ls i ∧ lB ls i < V
      · refine Ev.ite_pos (decide_eq_true hb) ?_
        by_cases he : lA ls i = lB ls i
        · refine Ev.ite_pos he ?_
          rw [decide_eq_false (no (fun h => h.2.2 he))]
          exact Ev.now _
        · refine Ev.ite_neg he ?_
          have e3 : wrap64 ((i : Int) + 1) = ((i + 1 : Nat) : Int) := wrap_succ (by omega)
          refine Ev.congr (fun k => by rw [e3]) (ih (i + 1) (by omega) (by omega) ?_)
          intro j a b
          by_cases e : j = i
          · subst e; exact ⟨ha, hb, he⟩
          · exact hp j a (by omega)
      · refine Ev.ite_neg (by simp only [decide_eq_true_eq]; exact hb) ?_
        rw [decide_eq_false (no (fun h => hb h.2.1))]
        exact Ev.now _
    · refine Ev.ite_neg (by simp only [decide_eq_true_eq]; exact ha) ?_
      rw [decide_eq_false (no (fun h => ha h.1))]
      exact Ev.now _

theorem graph_May_ev (V : Int) (ls : List S34) : Ev (fun k => graph_May.f k V ls) (decide (GOk V ls)) := by
  have no : ¬ (2 ≤ V ∧ V ≤ 8 ∧ ls.length ≤ 16) → Ev (fun k => graph_May.j0 k true V ls) (decide (GOk V ls)) := by
    intro h
    rw [decide_eq_false (fun g => h ⟨g.v2, g.v8, g.m16⟩)]
    refine Ev.step (fun k => by rw [graph_May.j0]) ?_
    exact Ev.ite_pos rfl (Ev.now _)
  unfold graph_May.f
  by_cases h1 : V < 2
  · exact Ev.ite_pos h1 (no (by omega))
  · refine Ev.ite_neg h1 ?_
    by_cases h2 : V > 8
    · exact Ev.ite_pos h2 (no (by omega))
    · refine Ev.ite_neg h2 ?_
      by_cases h3 : (ls.length : Int) > 16
      · rw [decide_eq_true h3]; exact no (by omega)
      · rw [decide_eq_false h3]
        refine Ev.step (fun k => by rw [graph_May.j0]) ?_
        refine Ev.ite_neg (by simp) ?_
        exact may_loop V ls (by omega) (by omega) ls.length 0 (by omega) (by omega) (fun j a b => by omega)

theorem half {k : Int} (h0 : 0 ≤ k) (h1 : k < 9223372036854775807) : wrap64 (Int.tdiv k 2) = k / 2 := by
  rw [Int.tdiv_eq_ediv_of_nonneg h0, wrap_id (by omega) (by omega)]

theorem odd_ {k : Int} (h0 : 0 ≤ k) : Int.tmod k 2 = k % 2 := Int.tmod_eq_emod_of_nonneg h0

theorem arcs_Ends_eq (V : Int) (ls : List S34) (hm : ls.length ≤ 17592186044416) {k : Int} (h0 : 0 ≤ k) (h1 : k < 2 * (ls.length : Int)) :
    arcs_Ends.f V ls k = some (tail (net V ls) k, head (net V ls) k) := by
  unfold arcs_Ends.f
  rw [half h0 (by omega), odd_ h0, if_pos (by omega), if_pos (by omega)]
  unfold tail head
  by_cases h : k % 2 = 1
  · rw [if_pos h, if_pos h, if_pos h]; rfl
  · rw [if_neg h, if_neg h, if_neg h]; rfl

/-- the arcs below n that begin at v -/
noncomputable def rowTo (N : Net) (v : Int) (n : Nat) : List Int := (ints n).filter (fun k => decide (tail N k = v))

noncomputable def rowOf (N : Net) (v : Int) : List Int := rowTo N v (2 * N.m)

theorem rowTo_succ (N : Net) (v : Int) (n : Nat) : rowTo N v (n + 1) = if tail N (n : Int) = v then rowTo N v n ++ [(n : Int)] else rowTo N v n := by
  unfold rowTo
  rw [ints_succ, List.filter_append]
  by_cases h : tail N (n : Int) = v
  · rw [if_pos h]; simp [h]
  · rw [if_neg h]; simp [h]

theorem rowTo_len (N : Net) (v : Int) (n : Nat) : (rowTo N v n).length ≤ n := by
  unfold rowTo
  have := List.length_filter_le (fun k => decide (tail N k = v)) (ints n)
  rw [ints_len] at this
  exact this

theorem row_loop (V : Int) (ls : List S34) (hm : ls.length ≤ 4096) (v : Int) (d : Nat) : ∀ (i : Nat), i ≤ 2 * ls.length → 2 * ls.length - i = d →
    Ev (fun k => arcs_row.l0 k v (rowTo (net V ls) v i) (2 * (ls.length : Int)) (i : Int) V ls) (rowOf (net V ls) v) := by
  induction d with
  | zero =>
    intro i hi hd
    obtain rfl : i = 2 * ls.length := by omega
    refine Ev.step (fun k => by rw [arcs_row.l0]) ?_
    refine Ev.ite_neg (by omega) ?_
    exact Ev.now _
  | succ d ih =>
    intro i hi hd
    have X := ih (i + 1) (by omega) (by omega)
    have hl := rowTo_len (net V ls) v i
    refine Ev.step (fun k => by rw [arcs_row.l0]) ?_
    refine Ev.ite_pos (by omega) ?_
    refine Ev.call (arcs_Ends_eq V ls (by omega) (by omega) (by omega)) ?_
    rw [rowTo_succ] at X
    have e3 : wrap64 ((i : Int) + 1) = ((i + 1 : Nat) : Int) := wrap_succ (by omega)
    by_cases h : tail (net V ls) (i : Int) = v
    · refine Ev.ite_pos h ?_
      refine Ev.ite_pos (by omega) ?_
      rw [if_pos h] at X
      exact Ev.congr (fun k => by rw [e3]) X
    · refine Ev.ite_neg h ?_
      rw [if_neg h] at X
      exact Ev.congr (fun k => by rw [e3]) X

theorem twice_ {ls : List S34} (hm : ls.length ≤ 4096) : wrap64 (2 * (ls.length : Int)) = 2 * (ls.length : Int) := wrap_id (by omega) (by omega)

theorem arcs_row_ev (V : Int) (ls : List S34) (hm : ls.length ≤ 4096) (v : Int) : Ev (fun k => arcs_row.f k V ls v) (rowOf (net V ls) v) := by
  unfold arcs_row.f
  rw [twice_ hm]
  exact row_loop V ls hm v (2 * ls.length) 0 (by omega) (by omega)

theorem arcs_Row_ev (V : Int) (ls : List S34) (v : Int) : Ev (fun k => arcs_Row.f k V ls v) (if GOk V ls ∧ (0 ≤ v ∧ v < V) then (rowOf (net V ls) v, 0) else ([], 500)) := by
  unfold arcs_Row.f
  refine Ev.bind (graph_May_ev V ls) ?_
  by_cases h : GOk V ls
  · refine Ev.ite_pos (decide_eq_true h) ?_
    refine Ev.call (graph_Has_eq _ _ _) ?_
    by_cases hv : 0 ≤ v ∧ v < V
    · refine Ev.ite_pos (decide_eq_true hv) ?_
      rw [if_pos ⟨h, hv⟩]
      refine Ev.bind (arcs_row_ev V ls (by have := h.m16; omega) v) ?_
      exact Ev.now _
    · refine Ev.ite_neg (by simp only [decide_eq_true_eq]; exact hv) ?_
      rw [if_neg (fun g => hv g.2)]
      exact Ev.now _
  · refine Ev.ite_neg (by simp only [decide_eq_true_eq]; exact h) ?_
    rw [if_neg (fun g => h g.1)]
    exact Ev.now _

theorem awake5T : Ev (fun k => tollbarlaw5_awake.f k) true := Ev.of tollbarlaw5_awake.mono (k := 100) (by decide +kernel)

theorem Num_eq5T (x : Int) : tollbarlaw0_Num.f x = some x := rfl

def smallT : List S34 := [⟨0, 1, 5⟩, ⟨1, 2, 4⟩, ⟨0, 2, 3⟩]

theorem small_eqT : tollbarlaw5_small.f = some (3, smallT) := rfl

theorem smallT_ok : GOk 3 smallT := by
  have h := Ev.inj (graph_May_ev 3 smallT) (Ev.of (graph_May.mono _ _) (k := 100) (r := true) (by decide +kernel))
  exact of_decide_eq_true h

theorem ArcsForms (a0 a1 : Int) : Ev (fun k => tollbarlaw5_ArcsForms.f k a0 a1) true := by
  unfold tollbarlaw5_ArcsForms.f
  refine Ev.call small_eqT ?_
  by_cases h : (Go.bits .and .i64 a0 1) = 0
  · refine Ev.ite_pos h (Ev.ite_pos (by decide) ?_)
    refine Ev.call rfl ?_
    have B : Ev (fun k => arcs_Build.f k 3 (smallT.set (0 : Int).toNat (⟨(rd_T34 smallT 0).f0, (rd_T34 smallT 0).f1, (-1)⟩ : S34))) ([], [], [], 500) := Ev.of (arcs_Build.mono _ _) (k := 100) (by decide +kernel)
    have R : Ev (fun k => arcs_Row.f k 3 (smallT.set (0 : Int).toNat (⟨(rd_T34 smallT 0).f0, (rd_T34 smallT 0).f1, (-1)⟩ : S34)) 0) ([], 500) := Ev.of (arcs_Row.mono _ _ _) (k := 100) (by decide +kernel)
    refine Ev.bind B (Ev.bind R (Ev.bind awake5T (Ev.ite_pos rfl ?_)))
    refine Ev.call (Num_eq5T _) (Ev.ite_pos rfl (Ev.call (Num_eq5T _) ?_))
    exact Ev.now _
  · refine Ev.ite_neg h ?_
    have R := arcs_Row_ev 3 smallT a1
    by_cases v : 0 ≤ a1 ∧ a1 < 3
    · rw [if_pos ⟨smallT_ok, v⟩] at R
      refine Ev.bind R (Ev.bind awake5T (Ev.ite_pos rfl ?_))
      refine Ev.call (Num_eq5T _) ?_
      refine Ev.ite_neg (by omega) ?_
      rw [decide_eq_false (show ¬ a1 > 2 by omega)]
      exact Ev.now _
    · rw [if_neg (fun g => v g.2)] at R
      refine Ev.bind R (Ev.bind awake5T (Ev.ite_pos rfl ?_))
      refine Ev.call (Num_eq5T _) ?_
      by_cases n : a1 < 0
      · exact Ev.ite_pos n (Ev.now _)
      · refine Ev.ite_neg n ?_
        rw [decide_eq_true (show a1 > 2 by omega)]
        exact Ev.now _

end Go.Proofs.Ytbbdbnikogmidab.Q
end
