/- Texts of this claim, one behind the other: QRateTurns. -/
import Derived.Test.YtbbdbnikogmidaaAfdd642
import Derived.Test.YtbbdbnikogmidaaA543ef9
section
/- What the law RateTurns leans on, and the law itself on what its printed walk tells: plain. -/
namespace Go.Proofs.Ytbbdbnikogmidaa.Q
open Go.RowKit Go.Proofs.YtbbdbnikogmidaaW.PrintWords Go.Proofs.YtbbdbnikogmidaaW.PrintMore Go.Proofs.Ytbbdbnikogmidaa.PAll Go.Proofs.Ytbbdbnikogmidaa.Plain
set_option linter.unusedVariables false
set_option linter.unusedSimpArgs false
attribute [local instance] Classical.propDecidable

theorem S_prefix {f : Int → Int} {n m : Nat} (h : ∀ i : Int, 0 ≤ i → i < (m : Int) → 0 ≤ f i) (hn : n ≤ m) : S n f ≤ S m f := by
  induction m with
  | zero => obtain rfl : n = 0 := by omega
            exact Int.le_refl _
  | succ m ih =>
    by_cases e : n = m + 1
    · subst e; exact Int.le_refl _
    · have h1 := ih (fun i a b => h i a (by omega)) (by omega)
      have h2 := h (m : Int) (by omega) (by omega)
      simp only [S]
      omega

theorem rate_Is_eq (x : Int) : rate_Is.f x = some (decide (0 ≤ x ∧ x ≤ 4611686018427387904)) := by
  unfold rate_Is.f
  by_cases h : x ≥ 0
  · rw [if_pos h]; congr 1; simp; omega
  · rw [if_neg h]; congr 1; simp; omega

def SumOk (xs : List Int) : Prop := (∀ i : Int, 0 ≤ i → i < (xs.length : Int) → 0 ≤ rd xs i) ∧ S xs.length (rd xs) ≤ 4611686018427387904

theorem sum_loop (xs : List Int) (hx : xs.length ≤ 4611686018427387904) (d : Nat) : ∀ (i : Nat), i ≤ xs.length → xs.length - i = d → (∀ j : Int, 0 ≤ j → j < (i : Int) → 0 ≤ rd xs j) → S i (rd xs) ≤ 4611686018427387904 →
    Ev (fun k => rate_Sum.l0 k (S i (rd xs)) xs (xs.length : Int) (i : Int)) (if SumOk xs then (S xs.length (rd xs), true) else (0, false)) := by
  induction d with
  | zero =>
    intro i hi hd hp hs
    obtain rfl : i = xs.length := by omega
    refine Ev.step (fun k => by rw [rate_Sum.l0]) ?_
    refine Ev.ite_neg (by omega) ?_
    rw [if_pos ⟨hp, hs⟩]
    exact Ev.now _
  | succ d ih =>
    intro i hi hd hp hs
    have h0 : 0 ≤ S i (rd xs) := S_nonneg hp
    refine Ev.step (fun k => by rw [rate_Sum.l0]) ?_
    refine Ev.ite_pos (by omega) ?_
    refine Ev.ite_pos (by omega) ?_
    refine Ev.ite_pos (by omega) ?_
    refine Ev.call (rate_Is_eq _) ?_
    by_cases hr : 0 ≤ rd xs i ∧ rd xs i ≤ 4611686018427387904
    · refine Ev.ite_pos (decide_eq_true hr) ?_
      by_cases hm : rd xs i > 4611686018427387904 - S i (rd xs)
      · refine Ev.ite_pos (by rw [wrap_id (by omega) (by omega)]; exact hm) ?_
        rw [if_neg]
        · exact Ev.now _
        · intro ho
          have := S_prefix (n := i + 1) ho.1 (by omega)
          simp only [S] at this
          have := ho.2
          omega
      · refine Ev.ite_neg (by rw [wrap_id (by omega) (by omega)]; exact hm) ?_
        have e2 : wrap64 (S i (rd xs) + rd xs i) = S (i + 1) (rd xs) := by rw [wrap_id (by omega) (by omega)]; rfl
        have e3 : wrap64 ((i : Int) + 1) = ((i + 1 : Nat) : Int) := wrap_succ (by omega)
        refine Ev.congr (fun k => by rw [e2, e3]) (ih (i + 1) (by omega) (by omega) ?_ ?_)
        · intro j a b
          by_cases e : j = i
          · subst e; exact hr.1
          · exact hp j a (by omega)
        · simp only [S]; omega
    · refine Ev.ite_neg (by simp only [decide_eq_true_eq]; exact hr) ?_
      rw [if_neg]
      · exact Ev.now _
      · intro ho
        have h1 := ho.1 i (by omega) (by omega)
        have := S_one_le ho.1 (k := (i : Int)) (by omega) (by omega)
        have := ho.2
        exact hr ⟨h1, by omega⟩

theorem rate_Sum_ev (xs : List Int) (hx : xs.length ≤ 4611686018427387904) : Ev (fun k => rate_Sum.f k xs) (if SumOk xs then (S xs.length (rd xs), true) else (0, false)) :=
  sum_loop xs hx xs.length 0 (by omega) (by omega) (fun j a b => by omega) (by simp [S])

theorem CopyIntsK_eq {xs : List Int} (h : xs.length < 17592186044416) : tollbarlaw0_CopyInts.f xs = some xs := by
  unfold tollbarlaw0_CopyInts.f
  simp only [Option.bind_some]
  rw [if_pos (by simpa using h)]
  rfl

/-- links one behind the other lead from u to w -/
def Trail (N : Net) : Int → List Int → Int → Prop
  | u, [], w => u = w
  | u, l :: p, w => (0 ≤ l ∧ l < (N.m : Int)) ∧ N.a l = u ∧ Trail N (N.b l) p w

theorem Trail.app {N : Net} {p q : List Int} : ∀ {u v w : Int}, Trail N u p v → Trail N v q w → Trail N u (p ++ q) w := by
  induction p with
  | nil => intro u v w h g; cases h; exact g
  | cons l p ih => intro u v w h g; exact ⟨h.1, h.2.1, ih h.2.2 g⟩

theorem Trail.mem {N : Net} {p : List Int} : ∀ {u w : Int}, Trail N u p w → ∀ l ∈ p, 0 ≤ l ∧ l < (N.m : Int) := by
  induction p with
  | nil => intro u w h l hl; cases hl
  | cons k p ih =>
    intro u w h l hl
    rcases List.mem_cons.1 hl with e | hl
    · rw [e]; exact h.1
    · exact ih h.2.2 l hl

def live (N : Net) (f : Int → Int) (X : Int → Bool) (v : Int) : Prop := ∃ i : Int, 0 ≤ i ∧ i < (N.m : Int) ∧ N.a i = v ∧ X (N.b i) = true ∧ 0 < f i

def closed (N : Net) (f : Int → Int) (X : Int → Bool) : Prop := ∀ v : Int, 0 ≤ v → v < (N.V : Int) → X v = true → live N f X v

theorem live.mono {N : Net} {f : Int → Int} {X Y : Int → Bool} {v : Int} (h : live N f X v) (g : ∀ v : Int, 0 ≤ v → v < (N.V : Int) → X v = true → Y v = true) (hN : N.ok) : live N f Y v := by
  obtain ⟨i, i0, i1, a, b, c⟩ := h
  have := hN.h i i0 i1
  exact ⟨i, i0, i1, a, g _ this.2.1.1 this.2.1.2 b, c⟩

theorem closed.congr {N : Net} (hN : N.ok) {f : Int → Int} {X Y : Int → Bool} (h : closed N f X) (e : ∀ u : Int, 0 ≤ u → u < (N.V : Int) → Y u = X u) : closed N f Y := by
  intro v v0 v1 hv
  rw [e v v0 v1] at hv
  exact (h v v0 v1 hv).mono (fun u u0 u1 hu => by rw [e u u0 u1]; exact hu) hN

def lsum : List Int → Int
  | [] => 0
  | x :: xs => x + lsum xs

theorem lsum_app (xs ys : List Int) : lsum (xs ++ ys) = lsum xs + lsum ys := by
  induction xs with
  | nil => show lsum ys = 0 + lsum ys; omega
  | cons x xs ih => show x + lsum (xs ++ ys) = x + lsum xs + lsum ys; rw [ih]; omega

theorem lsum_nonneg {xs : List Int} (h : ∀ x ∈ xs, 0 ≤ x) : 0 ≤ lsum xs := by
  induction xs with
  | nil => exact Int.le_refl _
  | cons x xs ih =>
    have h1 := h x List.mem_cons_self
    have h2 := ih (fun y hy => h y (List.mem_cons_of_mem _ hy))
    show 0 ≤ x + lsum xs
    omega

/-- numbers that have a sum that is a rate -/
def LOk (xs : List Int) : Prop := (∀ x ∈ xs, 0 ≤ x) ∧ lsum xs ≤ 4611686018427387904

theorem LOk.app {xs ys : List Int} : LOk (xs ++ ys) ↔ LOk xs ∧ LOk ys ∧ lsum xs + lsum ys ≤ 4611686018427387904 := by
  unfold LOk
  rw [lsum_app]
  constructor
  · rintro ⟨h, g⟩
    have h1 : ∀ x ∈ xs, 0 ≤ x := fun x hx => h x (List.mem_append.2 (.inl hx))
    have h2 : ∀ x ∈ ys, 0 ≤ x := fun x hx => h x (List.mem_append.2 (.inr hx))
    have := lsum_nonneg h1
    have := lsum_nonneg h2
    exact ⟨⟨h1, by omega⟩, ⟨h2, by omega⟩, g⟩
  · rintro ⟨h, g, e⟩
    refine ⟨fun x hx => ?_, e⟩
    rcases List.mem_append.1 hx with hx | hx
    · exact h.1 x hx
    · exact g.1 x hx

theorem LOk.turn {xs ys : List Int} : LOk (xs ++ ys) ↔ LOk (ys ++ xs) := by
  rw [LOk.app, LOk.app]
  constructor
  · rintro ⟨a, b, c⟩; exact ⟨b, a, by omega⟩
  · rintro ⟨a, b, c⟩; exact ⟨b, a, by omega⟩

structure IsLeast (z : Int) (xs : List Int) : Prop where
  mem : z ∈ xs
  le : ∀ y ∈ xs, z ≤ y

theorem IsLeast.unique {z y : Int} {xs ys : List Int} (h : IsLeast z xs) (g : IsLeast y ys) (e : ∀ x, x ∈ xs ↔ x ∈ ys) : z = y := by
  have h1 := h.le y ((e y).2 g.mem)
  have h2 := g.le z ((e z).1 h.mem)
  omega

theorem IsLeast.next {x z : Int} {xs : List Int} {i : Nat} (h : IsLeast z (x :: xs.take i)) (hl : i < xs.length) : IsLeast (mn z (rd xs (i : Int))) (x :: xs.take (i + 1)) := by
  have e : rd xs (i : Int) = xs[i] := by
    unfold rd
    rw [Int.toNat_natCast, List.getD_eq_getElem?_getD, List.getElem?_eq_getElem hl]; rfl
  rw [List.take_succ_eq_append_getElem hl, ← e]
  have hmn : (mn z (rd xs (i : Int)) = z ∧ z ≤ rd xs (i : Int)) ∨ (mn z (rd xs (i : Int)) = rd xs (i : Int) ∧ rd xs (i : Int) ≤ z) := by unfold mn; omega
  constructor
  · rcases hmn with ⟨g, _⟩ | ⟨g, _⟩
    · rw [g]
      rcases List.mem_cons.1 h.mem with q | q
      · rw [q]; exact List.mem_cons_self
      · exact List.mem_cons_of_mem _ (List.mem_append.2 (.inl q))
    · rw [g]; exact List.mem_cons_of_mem _ (List.mem_append.2 (.inr (by simp)))
  · intro y hy
    rcases List.mem_cons.1 hy with q | q
    · have := h.le y (by rw [q]; exact List.mem_cons_self)
      omega
    · rcases List.mem_append.1 q with q | q
      · have := h.le y (List.mem_cons_of_mem _ q)
        omega
      · rw [List.mem_singleton.1 q]; omega

theorem least_loop (xs : List Int) (hx : xs.length ≤ 17592186044416) (x : Int) (d : Nat) : ∀ (i : Nat) (z : Int), i ≤ xs.length → xs.length - i = d → IsLeast z (x :: xs.take i) →
    ∃ r : Int, Ev (fun k => rate_Least.l0 k z xs (xs.length : Int) (i : Int)) r ∧ IsLeast r (x :: xs) := by
  induction d with
  | zero =>
    intro i z hi hd h
    obtain rfl : i = xs.length := by omega
    rw [List.take_length] at h
    refine ⟨z, ?_, h⟩
    refine Ev.step (fun k => by rw [rate_Least.l0]) ?_
    exact Ev.ite_neg (by omega) (Ev.now _)
  | succ d ih =>
    intro i z hi hd h
    obtain ⟨r, X, g⟩ := ih (i + 1) _ (by omega) (by omega) (h.next (by omega))
    refine ⟨r, ?_, g⟩
    refine Ev.step (fun k => by rw [rate_Least.l0]) ?_
    refine Ev.ite_pos (by omega) (Ev.ite_pos (by omega) (Ev.ite_pos (by omega) ?_))
    exact Ev.congr (fun k => by rw [wrap_succ (by omega)]) X

theorem Least_ev (x : Int) (xs : List Int) (hx : xs.length ≤ 17592186044416) : ∃ r : Int, Ev (fun k => rate_Least.f k x xs) r ∧ IsLeast r (x :: xs) :=
  least_loop xs hx x xs.length 0 x (by omega) (by omega) ⟨by simp, fun y hy => by simp at hy; omega⟩

theorem mem_rd9 {xs : List Int} {x : Int} (h : x ∈ xs) : ∃ i : Int, 0 ≤ i ∧ i < (xs.length : Int) ∧ rd xs i = x := by
  obtain ⟨i, hi, e⟩ := mem_gd 0 h
  exact ⟨(i : Int), by omega, by omega, by unfold rd; rw [Int.toNat_natCast]; exact e⟩

theorem awake1 : Ev (fun _ => tollbarlaw1_awake.f) true := Ev.now _

theorem S_lsum_take (xs : List Int) : ∀ i : Nat, i ≤ xs.length → S i (rd xs) = lsum (xs.take i) := by
  intro i
  induction i with
  | zero => intro _; rfl
  | succ i ih =>
    intro h
    have hl : i < xs.length := by omega
    have e : rd xs (i : Int) = xs[i] := by
      unfold rd
      rw [Int.toNat_natCast, List.getD_eq_getElem?_getD, List.getElem?_eq_getElem hl]; rfl
    rw [List.take_succ_eq_append_getElem hl, lsum_app, ← ih (by omega), ← e]
    show S i (rd xs) + rd xs (i : Int) = S i (rd xs) + (rd xs (i : Int) + 0)
    omega

theorem S_lsum (xs : List Int) : S xs.length (rd xs) = lsum xs := by
  have := S_lsum_take xs xs.length (Nat.le_refl _)
  rwa [List.take_length] at this

theorem sumOk_iff (xs : List Int) : SumOk xs ↔ LOk xs := by
  unfold SumOk LOk
  rw [S_lsum]
  constructor
  · rintro ⟨h, g⟩
    refine ⟨fun x hx => ?_, g⟩
    obtain ⟨i, i0, i1, e⟩ := mem_rd9 hx
    rw [← e]; exact h i i0 i1
  · rintro ⟨h, g⟩
    exact ⟨fun i i0 i1 => h _ (gd_mem (by omega)), g⟩

noncomputable def sumR (xs : List Int) : Int × Bool := if LOk xs then (lsum xs, true) else (0, false)

theorem Sum_ev (xs : List Int) (hx : xs.length ≤ 4611686018427387904) : Ev (fun k => rate_Sum.f k xs) (sumR xs) := by
  have X := rate_Sum_ev xs hx
  unfold sumR
  by_cases h : LOk xs
  · rw [if_pos ((sumOk_iff xs).2 h), S_lsum] at X
    rw [if_pos h]; exact X
  · rw [if_neg (fun g => h ((sumOk_iff xs).1 g))] at X
    rw [if_neg h]; exact X

theorem cons_first {xs : List Int} (h : 0 < xs.length) : rd xs 0 :: xs.drop 1 = xs := by
  cases xs with
  | nil => simp at h
  | cons x xs => rfl

theorem RateTurns (xs : List Int) (at_ : Int) (h : xs.length + 2 < 17592186044416) : Ev (fun k => tollbarlaw1_RateTurns.f k xs at_) true := by
  unfold tollbarlaw1_RateTurns.f
  have no : Ev (fun k => tollbarlaw1_RateTurns.j0 k xs at_ true) true := by
    refine Ev.step (fun k => by rw [tollbarlaw1_RateTurns.j0]) ?_
    exact Ev.ite_pos rfl (Ev.now _)
  by_cases a : at_ < 0
  · exact Ev.ite_pos a no
  refine Ev.ite_neg a ?_
  by_cases b : at_ ≥ (xs.length : Int)
  · rw [decide_eq_true b]; exact no
  rw [decide_eq_false b]
  have hsplit : xs.take at_.toNat ++ xs.drop at_.toNat = xs := List.take_append_drop _ _
  have hl1 : (xs.take at_.toNat).length + (xs.drop at_.toNat).length = xs.length := by rw [← List.length_append, hsplit]
  have hlen : (xs.drop at_.toNat ++ xs.take at_.toNat).length = xs.length := by rw [List.length_append]; omega
  have es : sumR (xs.drop at_.toNat ++ xs.take at_.toNat) = sumR xs := by
    have e1 := LOk.turn (xs := xs.take at_.toNat) (ys := xs.drop at_.toNat)
    have e2 := lsum_app (xs.take at_.toNat) (xs.drop at_.toNat)
    have e3 := lsum_app (xs.drop at_.toNat) (xs.take at_.toNat)
    rw [hsplit] at e1 e2
    unfold sumR
    by_cases g : LOk xs
    · rw [if_pos g, if_pos (e1.1 g), e3, e2, Int.add_comm]
    · rw [if_neg g, if_neg (fun q => g (e1.2 q))]
  have hm : ∀ y, y ∈ xs ↔ y ∈ xs.drop at_.toNat ++ xs.take at_.toNat := by
    intro y
    have e : y ∈ xs ↔ y ∈ xs.take at_.toNat ++ xs.drop at_.toNat := by rw [hsplit]
    rw [e, List.mem_append, List.mem_append]
    exact Or.comm
  obtain ⟨z, Z, hz⟩ := Least_ev (rd xs 0) (xs.drop 1) (by rw [List.length_drop]; omega)
  obtain ⟨y, Y, hy⟩ := Least_ev (rd (xs.drop at_.toNat ++ xs.take at_.toNat) 0) ((xs.drop at_.toNat ++ xs.take at_.toNat).drop 1) (by rw [List.length_drop]; omega)
  rw [cons_first (by omega)] at hz hy
  obtain rfl : z = y := hz.unique hy hm
  refine Ev.step (fun k => by rw [tollbarlaw1_RateTurns.j0]) ?_
  refine Ev.ite_neg (by decide) (Ev.ite_pos (by omega) (Ev.ite_pos (by omega) ?_))
  refine Ev.call (CopyIntsK_eq (by omega)) (Ev.ite_pos (by omega) ?_)
  refine Ev.call rfl ?_
  have T := Sum_ev (xs.drop at_.toNat ++ xs.take at_.toNat) (by omega)
  rw [es] at T
  refine Ev.bind (Sum_ev xs (by omega)) (Ev.bind T (Ev.bind awake1 (Ev.ite_pos rfl ?_)))
  refine Ev.ite_pos rfl (Ev.ite_pos (by simp) (Ev.ite_pos (by omega) (Ev.ite_pos (by omega) (Ev.bind Z ?_))))
  refine Ev.ite_pos (by omega) (Ev.ite_pos (by omega) (Ev.bind Y ?_))
  show Ev (fun _ => some (z == z)) true
  rw [beq_self_eq_true]
  exact Ev.now _

end Go.Proofs.Ytbbdbnikogmidaa.Q
end
