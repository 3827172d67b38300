/- Texts of this claim, one behind the other: QRateSingles. -/
import Derived.Test.YtfdabjanjfehbaaA283112
import Derived.Test.YtfdabjanjfehbaaA25dc8a
import Derived.Test.YtfdabjanjfehbaaA2072e9
section
/- What the law RateSingles leans on, and the law itself on what its printed walk tells: plain. -/
namespace Go.Proofs.Ytfdabjanjfehbaa.Q
open Go.RowKit Go.Proofs.YtfdabjanjfehbaaW.PrintWords Go.Proofs.YtfdabjanjfehbaaW.PrintMore Go.Proofs.Ytfdabjanjfehbaa.PAll Go.Proofs.Ytfdabjanjfehbaa.Plain
set_option linter.unusedVariables false
set_option linter.unusedSimpArgs false
attribute [local instance] Classical.propDecidable

theorem S_prefix {f : Int → Int} {n m : Nat} (h : ∀ i : Int, 0 ≤ i → i < (m : Int) → 0 ≤ f i) (hn : n ≤ m) : S n f ≤ S m f := by
  induction m with
  | zero => obtain rfl : n = 0 := by omega
            exact Int.le_refl _
  | succ m ih =>
    by_cases e : n = m + 1
    · subst e; exact Int.le_refl _
    · have h1 := ih (fun i a b => h i a (by omega)) (by omega)
      have h2 := h (m : Int) (by omega) (by omega)
      simp only [S]
      omega

theorem rate_Is_eq (x : Int) : rate_Is.f x = some (decide (0 ≤ x ∧ x ≤ 4611686018427387904)) := by
  unfold rate_Is.f
  by_cases h : x ≥ 0
  · rw [if_pos h]; congr 1; simp; omega
  · rw [if_neg h]; congr 1; simp; omega

def SumOk (xs : List Int) : Prop := (∀ i : Int, 0 ≤ i → i < (xs.length : Int) → 0 ≤ rd xs i) ∧ S xs.length (rd xs) ≤ 4611686018427387904

theorem sum_loop (xs : List Int) (hx : xs.length ≤ 4611686018427387904) (d : Nat) : ∀ (i : Nat), i ≤ xs.length → xs.length - i = d → (∀ j : Int, 0 ≤ j → j < (i : Int) → 0 ≤ rd xs j) → S i (rd xs) ≤ 4611686018427387904 →
    Ev (fun k => rate_Sum.l0 k (S i (rd xs)) xs (xs.length : Int) (i : Int)) (if SumOk xs then (S xs.length (rd xs), true) else (0, false)) := by
  induction d with
  | zero =>
    intro i hi hd hp hs
    obtain rfl : i = xs.length := by omega
    refine Ev.step (fun k => by rw [rate_Sum.l0]) ?_
    refine Ev.ite_neg (by omega) ?_
    rw [if_pos ⟨hp, hs⟩]
    exact Ev.now _
  | succ d ih =>
    intro i hi hd hp hs
    have h0 : 0 ≤ S i (rd xs) := S_nonneg hp
    refine Ev.step (fun k => by rw [rate_Sum.l0]) ?_
    refine Ev.ite_pos (by omega) ?_
    refine Ev.ite_pos (by omega) ?_
    refine Ev.ite_pos (by omega) ?_
    refine Ev.call (rate_Is_eq _) ?_
    by_cases hr : 0 ≤ rd xs i ∧ rd xs i ≤ 4611686018427387904
    · refine Ev.ite_pos (decide_eq_true hr) ?_
      by_cases hm : rd xs i > 4611686018427387904 - S i (rd xs)
      · refine Ev.ite_pos (by rw [wrap_id (by omega) (by omega)]; exact hm) ?_
        rw [if_neg]
        · exact Ev.now _
        · intro ho
          have := S_prefix (n := i + 1) ho.1 (by omega)
          simp only [S] at this
          have := ho.2
          omega
      · refine Ev.ite_neg (by rw [wrap_id (by omega) (by omega)]; exact hm) ?_
        have e2 : wrap64 (S i (rd xs) + rd xs i) = S (i + 1) (rd xs) := by rw [wrap_id (by omega) (by omega)]; rfl
        have e3 : wrap64 ((i : Int) + 1) = ((i + 1 : Nat) : Int) := wrap_succ (by omega)
        refine Ev.congr (fun k => by rw [e2, e3]) (ih (i + 1) (by omega) (by omega) ?_ ?_)
        · intro j a b
          by_cases e : j = i
          · subst e; exact hr.1
          · exact hp j a (by omega)
        · simp only [S]; omega
    · refine Ev.ite_neg (by simp only [decide_eq_true_eq]; exact hr) ?_
      rw [if_neg]
      · exact Ev.now _
      · intro ho
        have h1 := ho.1 i (by omega) (by omega)
        have := S_one_le ho.1 (k := (i : Int)) (by omega) (by omega)
        have := ho.2
        exact hr ⟨h1, by omega⟩

theorem rate_Sum_ev (xs : List Int) (hx : xs.length ≤ 4611686018427387904) : Ev (fun k => rate_Sum.f k xs) (if SumOk xs then (S xs.length (rd xs), true) else (0, false)) :=
  sum_loop xs hx xs.length 0 (by omega) (by omega) (fun j a b => by omega) (by simp [S])

/-- links one behind the other lead from u to w -/
def Trail (N : Net) : Int → List Int → Int → Prop
  | u, [], w => u = w
  | u, l :: p, w => (0 ≤ l ∧ l < (N.m : Int)) ∧ N.a l = u ∧ Trail N (N.b l) p w

theorem Trail.app {N : Net} {p q : List Int} : ∀ {u v w : Int}, Trail N u p v → Trail N v q w → Trail N u (p ++ q) w := by
  induction p with
  | nil => intro u v w h g; cases h; exact g
  | cons l p ih => intro u v w h g; exact ⟨h.1, h.2.1, ih h.2.2 g⟩

def live (N : Net) (f : Int → Int) (X : Int → Bool) (v : Int) : Prop := ∃ i : Int, 0 ≤ i ∧ i < (N.m : Int) ∧ N.a i = v ∧ X (N.b i) = true ∧ 0 < f i

def closed (N : Net) (f : Int → Int) (X : Int → Bool) : Prop := ∀ v : Int, 0 ≤ v → v < (N.V : Int) → X v = true → live N f X v

theorem live.mono {N : Net} {f : Int → Int} {X Y : Int → Bool} {v : Int} (h : live N f X v) (g : ∀ v : Int, 0 ≤ v → v < (N.V : Int) → X v = true → Y v = true) (hN : N.ok) : live N f Y v := by
  obtain ⟨i, i0, i1, a, b, c⟩ := h
  have := hN.h i i0 i1
  exact ⟨i, i0, i1, a, g _ this.2.1.1 this.2.1.2 b, c⟩

theorem closed.congr {N : Net} (hN : N.ok) {f : Int → Int} {X Y : Int → Bool} (h : closed N f X) (e : ∀ u : Int, 0 ≤ u → u < (N.V : Int) → Y u = X u) : closed N f Y := by
  intro v v0 v1 hv
  rw [e v v0 v1] at hv
  exact (h v v0 v1 hv).mono (fun u u0 u1 hu => by rw [e u u0 u1]; exact hu) hN

def lsum : List Int → Int
  | [] => 0
  | x :: xs => x + lsum xs

theorem lsum_app (xs ys : List Int) : lsum (xs ++ ys) = lsum xs + lsum ys := by
  induction xs with
  | nil => show lsum ys = 0 + lsum ys; omega
  | cons x xs ih => show x + lsum (xs ++ ys) = x + lsum xs + lsum ys; rw [ih]; omega

theorem lsum_nonneg {xs : List Int} (h : ∀ x ∈ xs, 0 ≤ x) : 0 ≤ lsum xs := by
  induction xs with
  | nil => exact Int.le_refl _
  | cons x xs ih =>
    have h1 := h x List.mem_cons_self
    have h2 := ih (fun y hy => h y (List.mem_cons_of_mem _ hy))
    show 0 ≤ x + lsum xs
    omega

/-- numbers that have a sum that is a rate -/
def LOk (xs : List Int) : Prop := (∀ x ∈ xs, 0 ≤ x) ∧ lsum xs ≤ 4611686018427387904

theorem LOk.app {xs ys : List Int} : LOk (xs ++ ys) ↔ LOk xs ∧ LOk ys ∧ lsum xs + lsum ys ≤ 4611686018427387904 := by
  unfold LOk
  rw [lsum_app]
  constructor
  · rintro ⟨h, g⟩
    have h1 : ∀ x ∈ xs, 0 ≤ x := fun x hx => h x (List.mem_append.2 (.inl hx))
    have h2 : ∀ x ∈ ys, 0 ≤ x := fun x hx => h x (List.mem_append.2 (.inr hx))
    have := lsum_nonneg h1
    have := lsum_nonneg h2
    exact ⟨⟨h1, by omega⟩, ⟨h2, by omega⟩, g⟩
  · rintro ⟨h, g, e⟩
    refine ⟨fun x hx => ?_, e⟩
    rcases List.mem_append.1 hx with hx | hx
    · exact h.1 x hx
    · exact g.1 x hx

theorem mem_rd9 {xs : List Int} {x : Int} (h : x ∈ xs) : ∃ i : Int, 0 ≤ i ∧ i < (xs.length : Int) ∧ rd xs i = x := by
  obtain ⟨i, hi, e⟩ := mem_gd 0 h
  exact ⟨(i : Int), by omega, by omega, by unfold rd; rw [Int.toNat_natCast]; exact e⟩

theorem S_lsum_take (xs : List Int) : ∀ i : Nat, i ≤ xs.length → S i (rd xs) = lsum (xs.take i) := by
  intro i
  induction i with
  | zero => intro _; rfl
  | succ i ih =>
    intro h
    have hl : i < xs.length := by omega
    have e : rd xs (i : Int) = xs[i] := by
      unfold rd
      rw [Int.toNat_natCast, List.getD_eq_getElem?_getD, List.getElem?_eq_getElem hl]; rfl
    rw [List.take_succ_eq_append_getElem hl, lsum_app, ← ih (by omega), ← e]
    show S i (rd xs) + rd xs (i : Int) = S i (rd xs) + (rd xs (i : Int) + 0)
    omega

theorem S_lsum (xs : List Int) : S xs.length (rd xs) = lsum xs := by
  have := S_lsum_take xs xs.length (Nat.le_refl _)
  rwa [List.take_length] at this

theorem sumOk_iff (xs : List Int) : SumOk xs ↔ LOk xs := by
  unfold SumOk LOk
  rw [S_lsum]
  constructor
  · rintro ⟨h, g⟩
    refine ⟨fun x hx => ?_, g⟩
    obtain ⟨i, i0, i1, e⟩ := mem_rd9 hx
    rw [← e]; exact h i i0 i1
  · rintro ⟨h, g⟩
    exact ⟨fun i i0 i1 => h _ (gd_mem (by omega)), g⟩

noncomputable def sumR (xs : List Int) : Int × Bool := if LOk xs then (lsum xs, true) else (0, false)

theorem Sum_ev (xs : List Int) (hx : xs.length ≤ 4611686018427387904) : Ev (fun k => rate_Sum.f k xs) (sumR xs) := by
  have X := rate_Sum_ev xs hx
  unfold sumR
  by_cases h : LOk xs
  · rw [if_pos ((sumOk_iff xs).2 h), S_lsum] at X
    rw [if_pos h]; exact X
  · rw [if_neg (fun g => h ((sumOk_iff xs).1 g))] at X
    rw [if_neg h]; exact X

theorem LOk.cons {x : Int} {xs : List Int} : LOk (x :: xs) ↔ 0 ≤ x ∧ (∀ y ∈ xs, 0 ≤ y) ∧ x + lsum xs ≤ 4611686018427387904 := by
  unfold LOk
  constructor
  · rintro ⟨h, g⟩
    exact ⟨h x List.mem_cons_self, fun y hy => h y (List.mem_cons_of_mem _ hy), g⟩
  · rintro ⟨h0, h, g⟩
    refine ⟨fun y hy => ?_, g⟩
    rcases List.mem_cons.1 hy with e | e
    · rw [e]; exact h0
    · exact h y e

theorem lpos {xs : List Int} (h : ∀ y ∈ xs, 0 ≤ y) : 0 ≤ lsum xs := by
  induction xs with
  | nil => exact Int.le_refl 0
  | cons x xs ih =>
    have h1 := h x List.mem_cons_self
    have h2 := ih (fun y hy => h y (List.mem_cons_of_mem _ hy))
    show 0 ≤ x + lsum xs
    omega

/-- the meter with more -/
theorem with_ev {s : Int} (h0 : 0 ≤ s) (xs : List Int) (hx : xs.length ≤ 4611686018427387904) :
    Ev (fun k => rate_Meter_with.f k s xs) (if LOk (s :: xs) then (s + lsum xs, true, s) else (0, false, s)) := by
  unfold rate_Meter_with.f
  refine Ev.bind (Sum_ev xs hx) ?_
  unfold sumR
  by_cases A : LOk xs
  · rw [if_pos A]
    refine Ev.ite_pos rfl (Ev.bind (Sum_ev [s, lsum xs] (by simp)) ?_)
    unfold sumR
    have p := lpos A.1
    have e : lsum [s, lsum xs] = s + lsum xs := by show s + (lsum xs + 0) = _; omega
    by_cases B : s + lsum xs ≤ 4611686018427387904
    · have B2 : LOk [s, lsum xs] := LOk.cons.2 ⟨h0, fun y hy => by rw [List.mem_singleton.1 hy]; exact p, by show s + (lsum xs + 0) ≤ _; omega⟩
      rw [if_pos B2, if_pos (LOk.cons.2 ⟨h0, A.1, B⟩), e]
      exact Ev.now _
    · have B2 : ¬ LOk [s, lsum xs] := fun g => B (by have := (LOk.cons.1 g).2.2; rw [show lsum [lsum xs] = lsum xs + 0 from rfl] at this; omega)
      rw [if_neg B2, if_neg (fun g => B (LOk.cons.1 g).2.2)]
      exact Ev.now _
  · rw [if_neg A]
    refine Ev.ite_neg Bool.false_ne_true ?_
    rw [if_neg (fun g => A ⟨(LOk.cons.1 g).2.1, by have := (LOk.cons.1 g).2.2; omega⟩)]
    exact Ev.now _

theorem Add_ev {s : Int} (h0 : 0 ≤ s) (xs : List Int) (hx : xs.length ≤ 4611686018427387904) :
    Ev (fun k => rate_Meter_Add.f k s xs) (if LOk (s :: xs) then (true, s + lsum xs) else (false, s)) := by
  unfold rate_Meter_Add.f
  refine Ev.bind (with_ev h0 xs hx) ?_
  by_cases A : LOk (s :: xs)
  · rw [if_pos A, if_pos A]
    exact Ev.ite_pos rfl (Ev.now _)
  · rw [if_neg A, if_neg A]
    exact Ev.ite_neg Bool.false_ne_true (Ev.now _)

theorem singles_loop (xs : List Int) (hx : xs.length ≤ 17592186044416) (h : LOk xs) (d : Nat) : ∀ i : Nat, i ≤ xs.length → xs.length - i = d →
    Ev (fun k => tollbarlaw1_RateSingles.l0 k xs (lsum xs) (lsum (xs.take i)) (i : Int)) true := by
  induction d with
  | zero =>
    intro i hi hd
    obtain rfl : i = xs.length := by omega
    rw [List.take_length]
    refine Ev.step (fun k => by rw [tollbarlaw1_RateSingles.l0]) ?_
    exact Ev.ite_neg (by omega) (Ev.ite_pos rfl (Ev.now _))
  | succ d ih =>
    intro i hi hd
    have hil : i < xs.length := by omega
    have e1 : rd xs (i : Int) = xs[i] := by
      unfold rd
      rw [Int.toNat_natCast, List.getD_eq_getElem?_getD, List.getElem?_eq_getElem hil]; rfl
    have e2 : lsum (xs.take (i + 1)) = lsum (xs.take i) + rd xs (i : Int) := by
      rw [List.take_succ_eq_append_getElem hil, lsum_app, e1]
      show _ + (xs[i] + 0) = _
      omega
    have hok := h
    rw [← List.take_append_drop i xs] at hok
    have a1 := (LOk.app.1 hok).1
    have p1 := lpos a1.1
    have hok2 := h
    rw [← List.take_append_drop (i + 1) xs] at hok2
    have a2 := (LOk.app.1 hok2).1
    have p2 : 0 ≤ rd xs (i : Int) := h.1 _ (gd_mem (by omega))
    have X := ih (i + 1) (by omega) (by omega)
    have Y := Add_ev p1 [rd xs (i : Int)] (by simp)
    have B : LOk (lsum (xs.take i) :: [rd xs (i : Int)]) := LOk.cons.2 ⟨p1, fun y hy => by rw [List.mem_singleton.1 hy]; exact p2, by
      have := a2.2
      show _ + (_ + 0) ≤ _
      omega⟩
    rw [if_pos B] at Y
    refine Ev.step (fun k => by rw [tollbarlaw1_RateSingles.l0]) ?_
    refine Ev.ite_pos (by omega) (Ev.ite_pos (by omega) (Ev.bind Y (Ev.ite_pos rfl ?_)))
    have e3 : lsum (xs.take i) + lsum [rd xs (i : Int)] = lsum (xs.take (i + 1)) := by
      rw [e2]; show _ + (_ + 0) = _; omega
    show Ev (fun k => tollbarlaw1_RateSingles.l0 k xs (lsum xs) (lsum (xs.take i) + lsum [rd xs (i : Int)]) (wrap64 ((i : Int) + 1))) true
    rw [e3]
    exact Ev.congr (fun k => by rw [wrap_succ (by omega)]) X

theorem RateSingles (xs : List Int) (hx : xs.length ≤ 17592186044416) : Ev (fun k => tollbarlaw1_RateSingles.f k xs) true := by
  unfold tollbarlaw1_RateSingles.f
  refine Ev.bind (Add_ev (Int.le_refl 0) xs (by omega)) ?_
  by_cases A : LOk ((0 : Int) :: xs)
  · rw [if_pos A]
    refine Ev.ite_pos rfl ?_
    have B : LOk xs := ⟨(LOk.cons.1 A).2.1, by have := (LOk.cons.1 A).2.2; omega⟩
    have X := singles_loop xs hx B xs.length 0 (Nat.zero_le _) (Nat.sub_zero _)
    show Ev (fun k => tollbarlaw1_RateSingles.l0 k xs (0 + lsum xs) 0 0) true
    rw [Int.zero_add]
    exact X
  · rw [if_neg A]
    exact Ev.ite_neg Bool.false_ne_true (Ev.ite_pos rfl (Ev.now _))

end Go.Proofs.Ytfdabjanjfehbaa.Q
end
