/- Texts of this claim, one behind the other: QRateSplits. -/
import Derived.Test.YtbbdbnikogmidaaAfdd642
import Derived.Test.YtbbdbnikogmidaaA77cd89
import Derived.Test.YtbbdbnikogmidaaAfe0df3
section
/- What the law RateSplits leans on, and the law itself on what its printed walk tells: plain. -/
namespace Go.Proofs.Ytbbdbnikogmidaa.Q
open Go.RowKit Go.Proofs.YtbbdbnikogmidaaW.PrintWords Go.Proofs.YtbbdbnikogmidaaW.PrintMore Go.Proofs.Ytbbdbnikogmidaa.PAll Go.Proofs.Ytbbdbnikogmidaa.Plain
set_option linter.unusedVariables false
set_option linter.unusedSimpArgs false
attribute [local instance] Classical.propDecidable

theorem S_prefix {f : Int → Int} {n m : Nat} (h : ∀ i : Int, 0 ≤ i → i < (m : Int) → 0 ≤ f i) (hn : n ≤ m) : S n f ≤ S m f := by
  induction m with
  | zero => obtain rfl : n = 0 := by omega
            exact Int.le_refl _
  | succ m ih =>
    by_cases e : n = m + 1
    · subst e; exact Int.le_refl _
    · have h1 := ih (fun i a b => h i a (by omega)) (by omega)
      have h2 := h (m : Int) (by omega) (by omega)
      simp only [S]
      omega

theorem rate_Is_eq (x : Int) : rate_Is.f x = some (decide (0 ≤ x ∧ x ≤ 4611686018427387904)) := by
  unfold rate_Is.f
  by_cases h : x ≥ 0
  · rw [if_pos h]; congr 1; simp; omega
  · rw [if_neg h]; congr 1; simp; omega

def SumOk (xs : List Int) : Prop := (∀ i : Int, 0 ≤ i → i < (xs.length : Int) → 0 ≤ rd xs i) ∧ S xs.length (rd xs) ≤ 4611686018427387904

theorem sum_loop (xs : List Int) (hx : xs.length ≤ 4611686018427387904) (d : Nat) : ∀ (i : Nat), i ≤ xs.length → xs.length - i = d → (∀ j : Int, 0 ≤ j → j < (i : Int) → 0 ≤ rd xs j) → S i (rd xs) ≤ 4611686018427387904 →
    Ev (fun k => rate_Sum.l0 k (S i (rd xs)) xs (xs.length : Int) (i : Int)) (if SumOk xs then (S xs.length (rd xs), true) else (0, false)) := by
  induction d with
  | zero =>
    intro i hi hd hp hs
    obtain rfl : i = xs.length := by omega
    refine Ev.step (fun k => by rw [rate_Sum.l0]) ?_
    refine Ev.ite_neg (by omega) ?_
    rw [if_pos ⟨hp, hs⟩]
    exact Ev.now _
  | succ d ih =>
    intro i hi hd hp hs
    have h0 : 0 ≤ S i (rd xs) := S_nonneg hp
    refine Ev.step (fun k => by rw [rate_Sum.l0]) ?_
    refine Ev.ite_pos (by omega) ?_
    refine Ev.ite_pos (by omega) ?_
    refine Ev.ite_pos (by omega) ?_
    refine Ev.call (rate_Is_eq _) ?_
    by_cases hr : 0 ≤ rd xs i ∧ rd xs i ≤ 4611686018427387904
    · refine Ev.ite_pos (decide_eq_true hr) ?_
      by_cases hm : rd xs i > 4611686018427387904 - S i (rd xs)
      · refine Ev.ite_pos (by rw [wrap_id (by omega) (by omega)]; exact hm) ?_
        rw [if_neg]
        · exact Ev.now _
        · intro ho
          have := S_prefix (n := i + 1) ho.1 (by omega)
          simp only [S] at this
          have := ho.2
          omega
      · refine Ev.ite_neg (by rw [wrap_id (by omega) (by omega)]; exact hm) ?_
        have e2 : wrap64 (S i (rd xs) + rd xs i) = S (i + 1) (rd xs) := by rw [wrap_id (by omega) (by omega)]; rfl
        have e3 : wrap64 ((i : Int) + 1) = ((i + 1 : Nat) : Int) := wrap_succ (by omega)
        refine Ev.congr (fun k => by rw [e2, e3]) (ih (i + 1) (by omega) (by omega) ?_ ?_)
        · intro j a b
          by_cases e : j = i
          · subst e; exact hr.1
          · exact hp j a (by omega)
        · simp only [S]; omega
    · refine Ev.ite_neg (by simp only [decide_eq_true_eq]; exact hr) ?_
      rw [if_neg]
      · exact Ev.now _
      · intro ho
        have h1 := ho.1 i (by omega) (by omega)
        have := S_one_le ho.1 (k := (i : Int)) (by omega) (by omega)
        have := ho.2
        exact hr ⟨h1, by omega⟩

theorem rate_Sum_ev (xs : List Int) (hx : xs.length ≤ 4611686018427387904) : Ev (fun k => rate_Sum.f k xs) (if SumOk xs then (S xs.length (rd xs), true) else (0, false)) :=
  sum_loop xs hx xs.length 0 (by omega) (by omega) (fun j a b => by omega) (by simp [S])

/-- links one behind the other lead from u to w -/
def Trail (N : Net) : Int → List Int → Int → Prop
  | u, [], w => u = w
  | u, l :: p, w => (0 ≤ l ∧ l < (N.m : Int)) ∧ N.a l = u ∧ Trail N (N.b l) p w

theorem Trail.app {N : Net} {p q : List Int} : ∀ {u v w : Int}, Trail N u p v → Trail N v q w → Trail N u (p ++ q) w := by
  induction p with
  | nil => intro u v w h g; cases h; exact g
  | cons l p ih => intro u v w h g; exact ⟨h.1, h.2.1, ih h.2.2 g⟩

def lsum : List Int → Int
  | [] => 0
  | x :: xs => x + lsum xs

theorem lsum_app (xs ys : List Int) : lsum (xs ++ ys) = lsum xs + lsum ys := by
  induction xs with
  | nil => show lsum ys = 0 + lsum ys; omega
  | cons x xs ih => show x + lsum (xs ++ ys) = x + lsum xs + lsum ys; rw [ih]; omega

theorem lsum_nonneg {xs : List Int} (h : ∀ x ∈ xs, 0 ≤ x) : 0 ≤ lsum xs := by
  induction xs with
  | nil => exact Int.le_refl _
  | cons x xs ih =>
    have h1 := h x List.mem_cons_self
    have h2 := ih (fun y hy => h y (List.mem_cons_of_mem _ hy))
    show 0 ≤ x + lsum xs
    omega

/-- numbers that have a sum that is a rate -/
def LOk (xs : List Int) : Prop := (∀ x ∈ xs, 0 ≤ x) ∧ lsum xs ≤ 4611686018427387904

theorem LOk.app {xs ys : List Int} : LOk (xs ++ ys) ↔ LOk xs ∧ LOk ys ∧ lsum xs + lsum ys ≤ 4611686018427387904 := by
  unfold LOk
  rw [lsum_app]
  constructor
  · rintro ⟨h, g⟩
    have h1 : ∀ x ∈ xs, 0 ≤ x := fun x hx => h x (List.mem_append.2 (.inl hx))
    have h2 : ∀ x ∈ ys, 0 ≤ x := fun x hx => h x (List.mem_append.2 (.inr hx))
    have := lsum_nonneg h1
    have := lsum_nonneg h2
    exact ⟨⟨h1, by omega⟩, ⟨h2, by omega⟩, g⟩
  · rintro ⟨h, g, e⟩
    refine ⟨fun x hx => ?_, e⟩
    rcases List.mem_append.1 hx with hx | hx
    · exact h.1 x hx
    · exact g.1 x hx

theorem LOk.one {x : Int} : LOk [x] ↔ 0 ≤ x ∧ x ≤ 4611686018427387904 := by
  unfold LOk
  constructor
  · rintro ⟨h, g⟩
    have := h x (by simp)
    have e : lsum [x] = x := by show x + 0 = x; omega
    omega
  · rintro ⟨h, g⟩
    refine ⟨fun y hy => by rw [List.mem_singleton.1 hy]; exact h, ?_⟩
    show x + 0 ≤ _
    omega

theorem mem_rd9 {xs : List Int} {x : Int} (h : x ∈ xs) : ∃ i : Int, 0 ≤ i ∧ i < (xs.length : Int) ∧ rd xs i = x := by
  obtain ⟨i, hi, e⟩ := mem_gd 0 h
  exact ⟨(i : Int), by omega, by omega, by unfold rd; rw [Int.toNat_natCast]; exact e⟩

theorem awake1 : Ev (fun _ => tollbarlaw1_awake.f) true := Ev.now _

theorem S_lsum_take (xs : List Int) : ∀ i : Nat, i ≤ xs.length → S i (rd xs) = lsum (xs.take i) := by
  intro i
  induction i with
  | zero => intro _; rfl
  | succ i ih =>
    intro h
    have hl : i < xs.length := by omega
    have e : rd xs (i : Int) = xs[i] := by
      unfold rd
      rw [Int.toNat_natCast, List.getD_eq_getElem?_getD, List.getElem?_eq_getElem hl]; rfl
    rw [List.take_succ_eq_append_getElem hl, lsum_app, ← ih (by omega), ← e]
    show S i (rd xs) + rd xs (i : Int) = S i (rd xs) + (rd xs (i : Int) + 0)
    omega

theorem S_lsum (xs : List Int) : S xs.length (rd xs) = lsum xs := by
  have := S_lsum_take xs xs.length (Nat.le_refl _)
  rwa [List.take_length] at this

theorem sumOk_iff (xs : List Int) : SumOk xs ↔ LOk xs := by
  unfold SumOk LOk
  rw [S_lsum]
  constructor
  · rintro ⟨h, g⟩
    refine ⟨fun x hx => ?_, g⟩
    obtain ⟨i, i0, i1, e⟩ := mem_rd9 hx
    rw [← e]; exact h i i0 i1
  · rintro ⟨h, g⟩
    exact ⟨fun i i0 i1 => h _ (gd_mem (by omega)), g⟩

noncomputable def sumR (xs : List Int) : Int × Bool := if LOk xs then (lsum xs, true) else (0, false)

theorem Sum_ev (xs : List Int) (hx : xs.length ≤ 4611686018427387904) : Ev (fun k => rate_Sum.f k xs) (sumR xs) := by
  have X := rate_Sum_ev xs hx
  unfold sumR
  by_cases h : LOk xs
  · rw [if_pos ((sumOk_iff xs).2 h), S_lsum] at X
    rw [if_pos h]; exact X
  · rw [if_neg (fun g => h ((sumOk_iff xs).1 g))] at X
    rw [if_neg h]; exact X

theorem RateSplits (xs : List Int) (at_ : Int) (h : xs.length ≤ 17592186044416) : Ev (fun k => tollbarlaw1_RateSplits.f k xs at_) true := by
  unfold tollbarlaw1_RateSplits.f
  have no : Ev (fun k => tollbarlaw1_RateSplits.j0 k xs at_ true) true := by
    refine Ev.step (fun k => by rw [tollbarlaw1_RateSplits.j0]) ?_
    exact Ev.ite_pos rfl (Ev.now _)
  by_cases a : at_ < 0
  · exact Ev.ite_pos a no
  refine Ev.ite_neg a ?_
  by_cases b : at_ > (xs.length : Int)
  · rw [decide_eq_true b]; exact no
  rw [decide_eq_false b]
  have hsplit : xs.take at_.toNat ++ xs.drop at_.toNat = xs := List.take_append_drop _ _
  have hok := LOk.app (xs := xs.take at_.toNat) (ys := xs.drop at_.toNat)
  have hsum := lsum_app (xs.take at_.toNat) (xs.drop at_.toNat)
  rw [hsplit] at hok hsum
  have hl1 : (xs.take at_.toNat).length ≤ 4611686018427387904 := by rw [List.length_take]; omega
  have hl2 : (xs.drop at_.toNat).length ≤ 4611686018427387904 := by rw [List.length_drop]; omega
  refine Ev.step (fun k => by rw [tollbarlaw1_RateSplits.j0]) ?_
  refine Ev.ite_neg (by decide) (Ev.bind (Sum_ev xs (by omega)) (Ev.ite_pos (by omega) (Ev.ite_pos (by omega) ?_)))
  refine Ev.bind (Sum_ev _ hl1) (Ev.bind (Sum_ev _ hl2) ?_)
  refine Ev.bind (Sum_ev [(sumR (xs.take at_.toNat)).1, (sumR (xs.drop at_.toNat)).1] (by simp)) (Ev.bind awake1 (Ev.ite_pos rfl ?_))
  by_cases A : LOk (xs.take at_.toNat)
  · have eA : sumR (xs.take at_.toNat) = (lsum (xs.take at_.toNat), true) := if_pos A
    by_cases B : LOk (xs.drop at_.toNat)
    · have eB : sumR (xs.drop at_.toNat) = (lsum (xs.drop at_.toNat), true) := if_pos B
      rw [eA, eB]
      have a0 := lsum_nonneg A.1
      have b0 := lsum_nonneg B.1
      have two : LOk [lsum (xs.take at_.toNat), lsum (xs.drop at_.toNat)] ↔ LOk xs := by
        rw [hok]
        have e := LOk.app (xs := [lsum (xs.take at_.toNat)]) (ys := [lsum (xs.drop at_.toNat)])
        have s1 : lsum [lsum (xs.take at_.toNat)] = lsum (xs.take at_.toNat) := by show _ + 0 = _; omega
        have s2 : lsum [lsum (xs.drop at_.toNat)] = lsum (xs.drop at_.toNat) := by show _ + 0 = _; omega
        rw [s1, s2] at e
        constructor
        · intro g; exact ⟨A, B, (e.1 g).2.2⟩
        · intro g; exact e.2 ⟨LOk.one.2 ⟨a0, A.2⟩, LOk.one.2 ⟨b0, B.2⟩, g.2.2⟩
      refine Ev.ite_pos rfl (Ev.ite_pos rfl ?_)
      by_cases T : LOk xs
      · have eT : sumR xs = (lsum xs, true) := if_pos T
        have e2 : sumR [lsum (xs.take at_.toNat), lsum (xs.drop at_.toNat)] = (lsum xs, true) := by
          unfold sumR
          rw [if_pos (two.2 T), hsum]
          show (lsum (xs.take at_.toNat) + (lsum (xs.drop at_.toNat) + 0), true) = _
          rw [Int.add_zero]
        rw [eT]
        show Ev (fun _ => if (true == (sumR [lsum (xs.take at_.toNat), lsum (xs.drop at_.toNat)]).2) = true then (if true = true then some (lsum xs == (sumR [lsum (xs.take at_.toNat), lsum (xs.drop at_.toNat)]).1) else some true) else none) true
        rw [e2]
        refine Ev.ite_pos rfl (Ev.ite_pos rfl ?_)
        show Ev (fun _ => some (lsum xs == lsum xs)) true
        rw [beq_self_eq_true]
        exact Ev.now _
      · have eT : sumR xs = (0, false) := if_neg T
        have e2 : sumR [lsum (xs.take at_.toNat), lsum (xs.drop at_.toNat)] = (0, false) := if_neg (fun g => T (two.1 g))
        rw [eT]
        show Ev (fun _ => if (false == (sumR [lsum (xs.take at_.toNat), lsum (xs.drop at_.toNat)]).2) = true then (if false = true then some ((0 : Int) == (sumR [lsum (xs.take at_.toNat), lsum (xs.drop at_.toNat)]).1) else some true) else none) true
        rw [e2]
        exact Ev.ite_pos rfl (Ev.ite_neg (by decide) (Ev.now _))
    · have eB : sumR (xs.drop at_.toNat) = (0, false) := if_neg B
      have eT : sumR xs = (0, false) := if_neg (fun g => B (hok.1 g).2.1)
      rw [eA, eB, eT]
      exact Ev.ite_pos rfl (Ev.ite_neg (by decide) (Ev.ite_pos rfl (Ev.ite_neg (by decide) (Ev.now _))))
  · have eA : sumR (xs.take at_.toNat) = (0, false) := if_neg A
    have eT : sumR xs = (0, false) := if_neg (fun g => A (hok.1 g).1)
    rw [eA, eT]
    exact Ev.ite_neg (by decide) (Ev.ite_pos rfl (Ev.ite_neg (by decide) (Ev.now _)))

end Go.Proofs.Ytbbdbnikogmidaa.Q
end
