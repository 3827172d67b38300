/- Texts of this claim, one behind the other: QRateGauges. -/
import Derived.Test.YtfdabjanjfehbaaAba0c4a
import Derived.Test.YtfdabjanjfehbaaA25dc8a
import Derived.Test.YtfdabjanjfehbaaA2072e9
section
/- What the law RateGauges leans on, and the law itself on what its printed walk tells: plain. -/
namespace Go.Proofs.Ytfdabjanjfehbaa.Q
open Go.RowKit Go.Proofs.YtfdabjanjfehbaaW.PrintWords Go.Proofs.YtfdabjanjfehbaaW.PrintMore Go.Proofs.Ytfdabjanjfehbaa.PAll Go.Proofs.Ytfdabjanjfehbaa.Plain
set_option linter.unusedVariables false
set_option linter.unusedSimpArgs false
attribute [local instance] Classical.propDecidable

theorem S_prefix {f : Int → Int} {n m : Nat} (h : ∀ i : Int, 0 ≤ i → i < (m : Int) → 0 ≤ f i) (hn : n ≤ m) : S n f ≤ S m f := by
  induction m with
  | zero => obtain rfl : n = 0 := by omega
            exact Int.le_refl _
  | succ m ih =>
    by_cases e : n = m + 1
    · subst e; exact Int.le_refl _
    · have h1 := ih (fun i a b => h i a (by omega)) (by omega)
      have h2 := h (m : Int) (by omega) (by omega)
      simp only [S]
      omega

theorem rate_Is_eq (x : Int) : rate_Is.f x = some (decide (0 ≤ x ∧ x ≤ 4611686018427387904)) := by
  unfold rate_Is.f
  by_cases h : x ≥ 0
  · rw [if_pos h]; congr 1; simp; omega
  · rw [if_neg h]; congr 1; simp; omega

def SumOk (xs : List Int) : Prop := (∀ i : Int, 0 ≤ i → i < (xs.length : Int) → 0 ≤ rd xs i) ∧ S xs.length (rd xs) ≤ 4611686018427387904

theorem sum_loop (xs : List Int) (hx : xs.length ≤ 4611686018427387904) (d : Nat) : ∀ (i : Nat), i ≤ xs.length → xs.length - i = d → (∀ j : Int, 0 ≤ j → j < (i : Int) → 0 ≤ rd xs j) → S i (rd xs) ≤ 4611686018427387904 →
    Ev (fun k => rate_Sum.l0 k (S i (rd xs)) xs (xs.length : Int) (i : Int)) (if SumOk xs then (S xs.length (rd xs), true) else (0, false)) := by
  induction d with
  | zero =>
    intro i hi hd hp hs
    obtain rfl : i = xs.length := by omega
    refine Ev.step (fun k => by rw [rate_Sum.l0]) ?_
    refine Ev.ite_neg (by omega) ?_
    rw [if_pos ⟨hp, hs⟩]
    exact Ev.now _
  | succ d ih =>
    intro i hi hd hp hs
    have h0 : 0 ≤ S i (rd xs) := S_nonneg hp
    refine Ev.step (fun k => by rw [rate_Sum.l0]) ?_
    refine Ev.ite_pos (by omega) ?_
    refine Ev.ite_pos (by omega) ?_
    refine Ev.ite_pos (by omega) ?_
    refine Ev.call (rate_Is_eq _) ?_
    by_cases hr : 0 ≤ rd xs i ∧ rd xs i ≤ 4611686018427387904
    · refine Ev.ite_pos (decide_eq_true hr) ?_
      by_cases hm : rd xs i > 4611686018427387904 - S i (rd xs)
      · refine Ev.ite_pos (by rw [wrap_id (by omega) (by omega)]; exact hm) ?_
        rw [if_neg]
        · exact Ev.now _
        · intro ho
          have := S_prefix (n := i + 1) ho.1 (by omega)
          simp only [S] at this
          have := ho.2
          omega
      · refine Ev.ite_neg (by rw [wrap_id (by omega) (by omega)]; exact hm) ?_
        have e2 : wrap64 (S i (rd xs) + rd xs i) = S (i + 1) (rd xs) := by rw [wrap_id (by omega) (by omega)]; rfl
        have e3 : wrap64 ((i : Int) + 1) = ((i + 1 : Nat) : Int) := wrap_succ (by omega)
        refine Ev.congr (fun k => by rw [e2, e3]) (ih (i + 1) (by omega) (by omega) ?_ ?_)
        · intro j a b
          by_cases e : j = i
          · subst e; exact hr.1
          · exact hp j a (by omega)
        · simp only [S]; omega
    · refine Ev.ite_neg (by simp only [decide_eq_true_eq]; exact hr) ?_
      rw [if_neg]
      · exact Ev.now _
      · intro ho
        have h1 := ho.1 i (by omega) (by omega)
        have := S_one_le ho.1 (k := (i : Int)) (by omega) (by omega)
        have := ho.2
        exact hr ⟨h1, by omega⟩

theorem rate_Sum_ev (xs : List Int) (hx : xs.length ≤ 4611686018427387904) : Ev (fun k => rate_Sum.f k xs) (if SumOk xs then (S xs.length (rd xs), true) else (0, false)) :=
  sum_loop xs hx xs.length 0 (by omega) (by omega) (fun j a b => by omega) (by simp [S])

def live (N : Net) (f : Int → Int) (X : Int → Bool) (v : Int) : Prop := ∃ i : Int, 0 ≤ i ∧ i < (N.m : Int) ∧ N.a i = v ∧ X (N.b i) = true ∧ 0 < f i

def closed (N : Net) (f : Int → Int) (X : Int → Bool) : Prop := ∀ v : Int, 0 ≤ v → v < (N.V : Int) → X v = true → live N f X v

theorem live.mono {N : Net} {f : Int → Int} {X Y : Int → Bool} {v : Int} (h : live N f X v) (g : ∀ v : Int, 0 ≤ v → v < (N.V : Int) → X v = true → Y v = true) (hN : N.ok) : live N f Y v := by
  obtain ⟨i, i0, i1, a, b, c⟩ := h
  have := hN.h i i0 i1
  exact ⟨i, i0, i1, a, g _ this.2.1.1 this.2.1.2 b, c⟩

theorem closed.congr {N : Net} (hN : N.ok) {f : Int → Int} {X Y : Int → Bool} (h : closed N f X) (e : ∀ u : Int, 0 ≤ u → u < (N.V : Int) → Y u = X u) : closed N f Y := by
  intro v v0 v1 hv
  rw [e v v0 v1] at hv
  exact (h v v0 v1 hv).mono (fun u u0 u1 hu => by rw [e u u0 u1]; exact hu) hN

def lsum : List Int → Int
  | [] => 0
  | x :: xs => x + lsum xs

theorem lsum_app (xs ys : List Int) : lsum (xs ++ ys) = lsum xs + lsum ys := by
  induction xs with
  | nil => show lsum ys = 0 + lsum ys; omega
  | cons x xs ih => show x + lsum (xs ++ ys) = x + lsum xs + lsum ys; rw [ih]; omega

/-- numbers that have a sum that is a rate -/
def LOk (xs : List Int) : Prop := (∀ x ∈ xs, 0 ≤ x) ∧ lsum xs ≤ 4611686018427387904

theorem mem_rd9 {xs : List Int} {x : Int} (h : x ∈ xs) : ∃ i : Int, 0 ≤ i ∧ i < (xs.length : Int) ∧ rd xs i = x := by
  obtain ⟨i, hi, e⟩ := mem_gd 0 h
  exact ⟨(i : Int), by omega, by omega, by unfold rd; rw [Int.toNat_natCast]; exact e⟩

theorem S_lsum_take (xs : List Int) : ∀ i : Nat, i ≤ xs.length → S i (rd xs) = lsum (xs.take i) := by
  intro i
  induction i with
  | zero => intro _; rfl
  | succ i ih =>
    intro h
    have hl : i < xs.length := by omega
    have e : rd xs (i : Int) = xs[i] := by
      unfold rd
      rw [Int.toNat_natCast, List.getD_eq_getElem?_getD, List.getElem?_eq_getElem hl]; rfl
    rw [List.take_succ_eq_append_getElem hl, lsum_app, ← ih (by omega), ← e]
    show S i (rd xs) + rd xs (i : Int) = S i (rd xs) + (rd xs (i : Int) + 0)
    omega

theorem S_lsum (xs : List Int) : S xs.length (rd xs) = lsum xs := by
  have := S_lsum_take xs xs.length (Nat.le_refl _)
  rwa [List.take_length] at this

theorem sumOk_iff (xs : List Int) : SumOk xs ↔ LOk xs := by
  unfold SumOk LOk
  rw [S_lsum]
  constructor
  · rintro ⟨h, g⟩
    refine ⟨fun x hx => ?_, g⟩
    obtain ⟨i, i0, i1, e⟩ := mem_rd9 hx
    rw [← e]; exact h i i0 i1
  · rintro ⟨h, g⟩
    exact ⟨fun i i0 i1 => h _ (gd_mem (by omega)), g⟩

noncomputable def sumR (xs : List Int) : Int × Bool := if LOk xs then (lsum xs, true) else (0, false)

theorem Sum_ev (xs : List Int) (hx : xs.length ≤ 4611686018427387904) : Ev (fun k => rate_Sum.f k xs) (sumR xs) := by
  have X := rate_Sum_ev xs hx
  unfold sumR
  by_cases h : LOk xs
  · rw [if_pos ((sumOk_iff xs).2 h), S_lsum] at X
    rw [if_pos h]; exact X
  · rw [if_neg (fun g => h ((sumOk_iff xs).1 g))] at X
    rw [if_neg h]; exact X

theorem refsum_loop (xs : List Int) (hx : xs.length ≤ 17592186044416) (d : Nat) : ∀ (i : Nat), i ≤ xs.length → xs.length - i = d → (∀ j : Int, 0 ≤ j → j < (i : Int) → 0 ≤ rd xs j) → S i (rd xs) ≤ 4611686018427387904 →
    Ev (fun k => tollbarref1_Sum.l0 k xs (S i (rd xs)) (i : Int)) (if SumOk xs then (S xs.length (rd xs), true) else (0, false)) := by
  induction d with
  | zero =>
    intro i hi hd hp hs
    obtain rfl : i = xs.length := by omega
    rw [if_pos ⟨hp, hs⟩]
    refine Ev.step (fun k => by rw [tollbarref1_Sum.l0]) ?_
    exact Ev.ite_neg (by omega) (Ev.now _)
  | succ d ih =>
    intro i hi hd hp hs
    have h0 : 0 ≤ S i (rd xs) := S_nonneg hp
    refine Ev.step (fun k => by rw [tollbarref1_Sum.l0]) ?_
    refine Ev.ite_pos (by omega) (Ev.ite_pos (by omega) ?_)
    by_cases c : rd xs (i : Int) < 0
    · rw [if_neg (fun g => by have := g.1 (i : Int) (by omega) (by omega); omega)]
      exact Ev.ite_pos c (Ev.now _)
    · refine Ev.ite_neg c ?_
      rw [wrap_id (x := 4611686018427387904 - S i (rd xs)) (by omega) (by omega)]
      have hS : S (i + 1) (rd xs) = S i (rd xs) + rd xs (i : Int) := rfl
      by_cases g : rd xs (i : Int) > 4611686018427387904 - S i (rd xs)
      · rw [if_neg (fun q => by
          have := S_prefix (n := i + 1) (m := xs.length) q.1 (by omega)
          have := q.2
          omega)]
        exact Ev.ite_pos g (Ev.now _)
      · refine Ev.ite_neg g ?_
        have X := ih (i + 1) (by omega) (by omega) (fun j a b => by
          by_cases ej : j = (i : Int)
          · rw [ej]; omega
          · exact hp j a (by omega)) (by omega)
        rw [hS] at X
        exact Ev.congr (fun k => by rw [wrap_succ (by omega), wrap_id (x := S i (rd xs) + rd xs (i : Int)) (by omega) (by omega)]) X

theorem ref_Sum_ev (xs : List Int) (hx : xs.length ≤ 17592186044416) : Ev (fun k => tollbarref1_Sum.f k xs) (sumR xs) := by
  have X : Ev (fun k => tollbarref1_Sum.f k xs) (if SumOk xs then (S xs.length (rd xs), true) else (0, false)) := refsum_loop xs hx xs.length 0 (by omega) (by omega) (fun j a b => by omega) (by show (0 : Int) ≤ 4611686018427387904; decide)
  unfold sumR
  by_cases h : LOk xs
  · rw [if_pos ((sumOk_iff xs).2 h), S_lsum] at X
    rw [if_pos h]; exact X
  · rw [if_neg (fun g => h ((sumOk_iff xs).1 g))] at X
    rw [if_neg h]; exact X

theorem LOk.cons {x : Int} {xs : List Int} : LOk (x :: xs) ↔ 0 ≤ x ∧ (∀ y ∈ xs, 0 ≤ y) ∧ x + lsum xs ≤ 4611686018427387904 := by
  unfold LOk
  constructor
  · rintro ⟨h, g⟩
    exact ⟨h x List.mem_cons_self, fun y hy => h y (List.mem_cons_of_mem _ hy), g⟩
  · rintro ⟨h0, h, g⟩
    refine ⟨fun y hy => ?_, g⟩
    rcases List.mem_cons.1 hy with e | e
    · rw [e]; exact h0
    · exact h y e

theorem lpos {xs : List Int} (h : ∀ y ∈ xs, 0 ≤ y) : 0 ≤ lsum xs := by
  induction xs with
  | nil => exact Int.le_refl 0
  | cons x xs ih =>
    have h1 := h x List.mem_cons_self
    have h2 := ih (fun y hy => h y (List.mem_cons_of_mem _ hy))
    show 0 ≤ x + lsum xs
    omega

/-- the meter with more -/
theorem with_ev {s : Int} (h0 : 0 ≤ s) (xs : List Int) (hx : xs.length ≤ 4611686018427387904) :
    Ev (fun k => rate_Meter_with.f k s xs) (if LOk (s :: xs) then (s + lsum xs, true, s) else (0, false, s)) := by
  unfold rate_Meter_with.f
  refine Ev.bind (Sum_ev xs hx) ?_
  unfold sumR
  by_cases A : LOk xs
  · rw [if_pos A]
    refine Ev.ite_pos rfl (Ev.bind (Sum_ev [s, lsum xs] (by simp)) ?_)
    unfold sumR
    have p := lpos A.1
    have e : lsum [s, lsum xs] = s + lsum xs := by show s + (lsum xs + 0) = _; omega
    by_cases B : s + lsum xs ≤ 4611686018427387904
    · have B2 : LOk [s, lsum xs] := LOk.cons.2 ⟨h0, fun y hy => by rw [List.mem_singleton.1 hy]; exact p, by show s + (lsum xs + 0) ≤ _; omega⟩
      rw [if_pos B2, if_pos (LOk.cons.2 ⟨h0, A.1, B⟩), e]
      exact Ev.now _
    · have B2 : ¬ LOk [s, lsum xs] := fun g => B (by have := (LOk.cons.1 g).2.2; rw [show lsum [lsum xs] = lsum xs + 0 from rfl] at this; omega)
      rw [if_neg B2, if_neg (fun g => B (LOk.cons.1 g).2.2)]
      exact Ev.now _
  · rw [if_neg A]
    refine Ev.ite_neg Bool.false_ne_true ?_
    rw [if_neg (fun g => A ⟨(LOk.cons.1 g).2.1, by have := (LOk.cons.1 g).2.2; omega⟩)]
    exact Ev.now _

theorem Add_ev {s : Int} (h0 : 0 ≤ s) (xs : List Int) (hx : xs.length ≤ 4611686018427387904) :
    Ev (fun k => rate_Meter_Add.f k s xs) (if LOk (s :: xs) then (true, s + lsum xs) else (false, s)) := by
  unfold rate_Meter_Add.f
  refine Ev.bind (with_ev h0 xs hx) ?_
  by_cases A : LOk (s :: xs)
  · rw [if_pos A, if_pos A]
    exact Ev.ite_pos rfl (Ev.now _)
  · rw [if_neg A, if_neg A]
    exact Ev.ite_neg Bool.false_ne_true (Ev.now _)

theorem GAdd_ev {s m : Int} (h0 : 0 ≤ s) (xs : List Int) (hx : xs.length ≤ 4611686018427387904) :
    Ev (fun k => rate_Gauge_Add.f k s m xs) (if LOk (s :: xs) ∧ s + lsum xs ≤ m then (true, s + lsum xs) else (false, s)) := by
  unfold rate_Gauge_Add.f
  refine Ev.bind (with_ev h0 xs hx) ?_
  by_cases A : LOk (s :: xs)
  · rw [if_pos A]
    refine Ev.ite_pos rfl ?_
    by_cases B : s + lsum xs ≤ m
    · rw [if_pos ⟨A, B⟩]
      refine Ev.ite_neg (by show ¬ (s + lsum xs > m); omega) ?_
      have X := Add_ev h0 xs hx
      rw [if_pos A] at X
      exact X
    · rw [if_neg (fun g => B g.2)]
      exact Ev.ite_pos (by show s + lsum xs > m; omega) (Ev.now _)
  · rw [if_neg A, if_neg (fun g => A g.1)]
    exact Ev.ite_neg Bool.false_ne_true (Ev.now _)

theorem rowAt_mem {xs : List (List Int)} {i : Nat} (h : i < xs.length) : PAll.rowAt xs (i : Int) ∈ xs := by
  unfold PAll.rowAt
  rw [Int.toNat_natCast, List.getD_eq_getElem?_getD, List.getElem?_eq_getElem h]
  exact List.getElem_mem h

theorem gauges_loop (m : Int) (xs : List (List Int)) (ws : List Int) (hl : xs.length ≤ 17592186044416) (hx : ∀ ys ∈ xs, ys.length + 1 < 17592186044416) (d : Nat) : ∀ (i : Nat) (s : Int), 0 ≤ s → s ≤ 4611686018427387904 → i ≤ xs.length → xs.length - i = d →
    Ev (fun k => tollbarlaw1_RateGauges.l0 k m xs ws s (i : Int)) true := by
  induction d with
  | zero =>
    intro i s h0 h1 hi hd
    refine Ev.step (fun k => by rw [tollbarlaw1_RateGauges.l0]) ?_
    exact Ev.ite_neg (by omega) (Ev.now _)
  | succ d ih =>
    intro i s h0 h1 hi hd
    have hm := hx _ (rowAt_mem (xs := xs) (i := i) (by omega))
    have Y := Add_ev h0 (PAll.rowAt xs (i : Int)) (by omega)
    have G := GAdd_ev (m := m) h0 (PAll.rowAt xs (i : Int)) (by omega)
    have Z := ref_Sum_ev ([s] ++ PAll.rowAt xs (i : Int)) (by show (PAll.rowAt xs (i : Int)).length + 1 ≤ _; omega)
    have e : [s] ++ PAll.rowAt xs (i : Int) = s :: PAll.rowAt xs (i : Int) := rfl
    have es : wrap64 ((i : Int) + 1) = ((i + 1 : Nat) : Int) := wrap_succ (by omega)
    have stay : Ev (fun k => tollbarlaw1_RateGauges.l0 k m xs ws s (wrap64 ((i : Int) + 1))) true := Ev.congr (fun k => by rw [es]) (ih (i + 1) s h0 h1 (by omega) (by omega))
    refine Ev.step (fun k => by rw [tollbarlaw1_RateGauges.l0]) ?_
    refine Ev.ite_pos (by omega) ?_
    by_cases q : (i : Int) < (ws.length : Int)
    · refine Ev.ite_pos q (Ev.ite_pos (by omega) (Ev.ite_pos hm (Ev.bind Z ?_)))
      unfold sumR
      rw [e]
      by_cases A : LOk (s :: PAll.rowAt xs (i : Int))
      · have go := ih (i + 1) (s + lsum (PAll.rowAt xs (i : Int))) (by have := lpos (LOk.cons.1 A).2.1; omega) (LOk.cons.1 A).2.2 (by omega) (by omega)
        have go2 : Ev (fun k => tollbarlaw1_RateGauges.l0 k m xs ws (s + lsum (PAll.rowAt xs (i : Int))) (wrap64 ((i : Int) + 1))) true := Ev.congr (fun k => by rw [es]) go
        rw [if_pos A]
        by_cases t : Int.tmod (rd ws (i : Int)) 2 = 0
        · refine Ev.ite_pos t (Ev.bind G ?_)
          by_cases B : s + lsum (PAll.rowAt xs (i : Int)) ≤ m
          · rw [if_pos ⟨A, B⟩]
            exact Ev.ite_pos rfl (Ev.ite_pos B (Ev.ite_pos rfl (Ev.ite_pos rfl go2)))
          · rw [if_neg (fun g => B g.2)]
            exact Ev.ite_pos rfl (Ev.ite_neg B (Ev.ite_neg Bool.false_ne_true (Ev.ite_pos rfl stay)))
        · refine Ev.ite_neg t (Ev.bind Y ?_)
          rw [if_pos A]
          exact Ev.ite_pos rfl (Ev.ite_pos rfl (Ev.ite_pos rfl go2))
      · rw [if_neg A]
        by_cases t : Int.tmod (rd ws (i : Int)) 2 = 0
        · refine Ev.ite_pos t (Ev.bind G ?_)
          rw [if_neg (fun g => A g.1)]
          exact Ev.ite_neg Bool.false_ne_true (Ev.ite_neg Bool.false_ne_true (Ev.ite_pos rfl stay))
        · refine Ev.ite_neg t (Ev.bind Y ?_)
          rw [if_neg A]
          exact Ev.ite_neg Bool.false_ne_true (Ev.ite_neg Bool.false_ne_true (Ev.ite_pos rfl stay))
    · exact Ev.ite_neg q (Ev.now _)

theorem RateGauges (a : Int) (xs : List (List Int)) (ws : List Int) (hl : xs.length ≤ 17592186044416) (hx : ∀ ys ∈ xs, ys.length + 1 < 17592186044416) : Ev (fun k => tollbarlaw1_RateGauges.f k a xs ws) true :=
  gauges_loop _ xs ws hl hx xs.length 0 0 (Int.le_refl 0) (by decide) (Nat.zero_le _) (Nat.sub_zero _)

end Go.Proofs.Ytfdabjanjfehbaa.Q
end
