/- Texts of this claim, one behind the other: QRateSums. -/
import Derived.Test.YtbbdbnikogmidaaAfdd642
import Derived.Test.YtbbdbnikogmidaaA77cd89
import Derived.Test.YtbbdbnikogmidaaA0fd000
section
/- What the law RateSums leans on, and the law itself on what its printed walk tells: plain. -/
namespace Go.Proofs.Ytbbdbnikogmidaa.Q
open Go.RowKit Go.Proofs.YtbbdbnikogmidaaW.PrintWords Go.Proofs.YtbbdbnikogmidaaW.PrintMore Go.Proofs.Ytbbdbnikogmidaa.PAll Go.Proofs.Ytbbdbnikogmidaa.Plain
set_option linter.unusedVariables false
set_option linter.unusedSimpArgs false
attribute [local instance] Classical.propDecidable

theorem S_prefix {f : Int → Int} {n m : Nat} (h : ∀ i : Int, 0 ≤ i → i < (m : Int) → 0 ≤ f i) (hn : n ≤ m) : S n f ≤ S m f := by
  induction m with
  | zero => obtain rfl : n = 0 := by omega
            exact Int.le_refl _
  | succ m ih =>
    by_cases e : n = m + 1
    · subst e; exact Int.le_refl _
    · have h1 := ih (fun i a b => h i a (by omega)) (by omega)
      have h2 := h (m : Int) (by omega) (by omega)
      simp only [S]
      omega

theorem rate_Is_eq (x : Int) : rate_Is.f x = some (decide (0 ≤ x ∧ x ≤ 4611686018427387904)) := by
  unfold rate_Is.f
  by_cases h : x ≥ 0
  · rw [if_pos h]; congr 1; simp; omega
  · rw [if_neg h]; congr 1; simp; omega

def SumOk (xs : List Int) : Prop := (∀ i : Int, 0 ≤ i → i < (xs.length : Int) → 0 ≤ rd xs i) ∧ S xs.length (rd xs) ≤ 4611686018427387904

theorem sum_loop (xs : List Int) (hx : xs.length ≤ 4611686018427387904) (d : Nat) : ∀ (i : Nat), i ≤ xs.length → xs.length - i = d → (∀ j : Int, 0 ≤ j → j < (i : Int) → 0 ≤ rd xs j) → S i (rd xs) ≤ 4611686018427387904 →
    Ev (fun k => rate_Sum.l0 k (S i (rd xs)) xs (xs.length : Int) (i : Int)) (if SumOk xs then (S xs.length (rd xs), true) else (0, false)) := by
  induction d with
  | zero =>
    intro i hi hd hp hs
    obtain rfl : i = xs.length := by omega
    refine Ev.step (fun k => by rw [rate_Sum.l0]) ?_
    refine Ev.ite_neg (by omega) ?_
    rw [if_pos ⟨hp, hs⟩]
    exact Ev.now _
  | succ d ih =>
    intro i hi hd hp hs
    have h0 : 0 ≤ S i (rd xs) := S_nonneg hp
    refine Ev.step (fun k => by rw [rate_Sum.l0]) ?_
    refine Ev.ite_pos (by omega) ?_
    refine Ev.ite_pos (by omega) ?_
    refine Ev.ite_pos (by omega) ?_
    refine Ev.call (rate_Is_eq _) ?_
    by_cases hr : 0 ≤ rd xs i ∧ rd xs i ≤ 4611686018427387904
    · refine Ev.ite_pos (decide_eq_true hr) ?_
      by_cases hm : rd xs i > 4611686018427387904 - S i (rd xs)
      · refine Ev.ite_pos (by rw [wrap_id (by omega) (by omega)]; exact hm) ?_
        rw [if_neg]
        · exact Ev.now _
        · intro ho
          have := S_prefix (n := i + 1) ho.1 (by omega)
          simp only [S] at this
          have := ho.2
          omega
      · refine Ev.ite_neg (by rw [wrap_id (by omega) (by omega)]; exact hm) ?_
        have e2 : wrap64 (S i (rd xs) + rd xs i) = S (i + 1) (rd xs) := by rw [wrap_id (by omega) (by omega)]; rfl
        have e3 : wrap64 ((i : Int) + 1) = ((i + 1 : Nat) : Int) := wrap_succ (by omega)
        refine Ev.congr (fun k => by rw [e2, e3]) (ih (i + 1) (by omega) (by omega) ?_ ?_)
        · intro j a b
          by_cases e : j = i
          · subst e; exact hr.1
          · exact hp j a (by omega)
        · simp only [S]; omega
    · refine Ev.ite_neg (by simp only [decide_eq_true_eq]; exact hr) ?_
      rw [if_neg]
      · exact Ev.now _
      · intro ho
        have h1 := ho.1 i (by omega) (by omega)
        have := S_one_le ho.1 (k := (i : Int)) (by omega) (by omega)
        have := ho.2
        exact hr ⟨h1, by omega⟩

theorem rate_Sum_ev (xs : List Int) (hx : xs.length ≤ 4611686018427387904) : Ev (fun k => rate_Sum.f k xs) (if SumOk xs then (S xs.length (rd xs), true) else (0, false)) :=
  sum_loop xs hx xs.length 0 (by omega) (by omega) (fun j a b => by omega) (by simp [S])

theorem same_loop (xs ys : List Int) (hl : xs.length = ys.length) (hx : xs.length ≤ 17592186044416) (d : Nat) : ∀ (i : Nat), i ≤ xs.length → xs.length - i = d → (∀ j : Int, 0 ≤ j → j < (i : Int) → rd xs j = rd ys j) →
    Ev (fun k => tollbarref19_SameInts.l0 k xs ys (i : Int)) (decide (xs = ys)) := by
  induction d with
  | zero =>
    intro i hi hd hp
    obtain rfl : i = xs.length := by omega
    refine Ev.step (fun k => by rw [tollbarref19_SameInts.l0]) ?_
    refine Ev.ite_neg (by omega) ?_
    rw [decide_eq_true (rd_ext hl hp)]
    exact Ev.now _
  | succ d ih =>
    intro i hi hd hp
    refine Ev.step (fun k => by rw [tollbarref19_SameInts.l0]) ?_
    refine Ev.ite_pos (by omega) ?_
    refine Ev.ite_pos (by omega) ?_
    refine Ev.ite_pos (by omega) ?_
    by_cases h : rd xs i = rd ys i
    · refine Ev.ite_pos h ?_
      have X := ih (i + 1) (by omega) (by omega) (fun j a b => by
        by_cases e : j = i
        · subst e; exact h
        · exact hp j a (by omega))
      have e3 : wrap64 ((i : Int) + 1) = ((i + 1 : Nat) : Int) := wrap_succ (by omega)
      exact Ev.congr (fun k => by rw [e3]) X
    · refine Ev.ite_neg h ?_
      rw [decide_eq_false (fun e => h (by rw [e]))]
      exact Ev.now _

theorem ref_SameInts_ev (xs ys : List Int) (hx : xs.length ≤ 17592186044416) : Ev (fun k => tollbarref19_SameInts.f k xs ys) (decide (xs = ys)) := by
  unfold tollbarref19_SameInts.f
  by_cases hl : xs.length = ys.length
  · refine Ev.ite_pos (by omega) ?_
    exact same_loop xs ys hl hx xs.length 0 (by omega) (by omega) (fun j a b => by omega)
  · refine Ev.ite_neg (by omega) ?_
    rw [decide_eq_false (fun e => hl (by rw [e]))]
    exact Ev.now _

theorem SameInts_ev (xs ys : List Int) (hx : xs.length ≤ 17592186044416) : Ev (fun k => tollbarlaw0_SameInts.f k xs ys) (decide (xs = ys)) := by
  unfold tollbarlaw0_SameInts.f
  exact Ev.bind (ref_SameInts_ev xs ys hx) (Ev.now _)

theorem SameInts_self (xs : List Int) (hx : xs.length ≤ 17592186044416) : Ev (fun k => tollbarlaw0_SameInts.f k xs xs) true := by
  have := SameInts_ev xs xs hx
  rwa [decide_eq_true rfl] at this

theorem CopyIntsK_eq {xs : List Int} (h : xs.length < 17592186044416) : tollbarlaw0_CopyInts.f xs = some xs := by
  unfold tollbarlaw0_CopyInts.f
  simp only [Option.bind_some]
  rw [if_pos (by simpa using h)]
  rfl

theorem LendInts_eq {xs : List Int} (h : xs.length + 2 < 17592186044416) : tollbarlaw0_LendInts.f xs = some xs := by
  unfold tollbarlaw0_LendInts.f
  rw [CopyIntsK_eq (by omega)]
  simp only [Option.bind_some]
  rw [if_pos h]

theorem KeptInts_ev (xs : List Int) (h : xs.length + 2 < 17592186044416) : Ev (fun k => tollbarlaw0_KeptInts.f k xs xs) true := by
  unfold tollbarlaw0_KeptInts.f
  refine Ev.ite_pos h (Ev.ite_pos rfl ?_)
  refine Ev.bind (SameInts_self xs (by omega)) ?_
  exact Ev.ite_pos rfl (Ev.now _)

/-- links one behind the other lead from u to w -/
def Trail (N : Net) : Int → List Int → Int → Prop
  | u, [], w => u = w
  | u, l :: p, w => (0 ≤ l ∧ l < (N.m : Int)) ∧ N.a l = u ∧ Trail N (N.b l) p w

theorem Trail.mem {N : Net} {p : List Int} : ∀ {u w : Int}, Trail N u p w → ∀ l ∈ p, 0 ≤ l ∧ l < (N.m : Int) := by
  induction p with
  | nil => intro u w h l hl; cases hl
  | cons k p ih =>
    intro u w h l hl
    rcases List.mem_cons.1 hl with e | hl
    · rw [e]; exact h.1
    · exact ih h.2.2 l hl

def live (N : Net) (f : Int → Int) (X : Int → Bool) (v : Int) : Prop := ∃ i : Int, 0 ≤ i ∧ i < (N.m : Int) ∧ N.a i = v ∧ X (N.b i) = true ∧ 0 < f i

def closed (N : Net) (f : Int → Int) (X : Int → Bool) : Prop := ∀ v : Int, 0 ≤ v → v < (N.V : Int) → X v = true → live N f X v

theorem live.mono {N : Net} {f : Int → Int} {X Y : Int → Bool} {v : Int} (h : live N f X v) (g : ∀ v : Int, 0 ≤ v → v < (N.V : Int) → X v = true → Y v = true) (hN : N.ok) : live N f Y v := by
  obtain ⟨i, i0, i1, a, b, c⟩ := h
  have := hN.h i i0 i1
  exact ⟨i, i0, i1, a, g _ this.2.1.1 this.2.1.2 b, c⟩

theorem closed.congr {N : Net} (hN : N.ok) {f : Int → Int} {X Y : Int → Bool} (h : closed N f X) (e : ∀ u : Int, 0 ≤ u → u < (N.V : Int) → Y u = X u) : closed N f Y := by
  intro v v0 v1 hv
  rw [e v v0 v1] at hv
  exact (h v v0 v1 hv).mono (fun u u0 u1 hu => by rw [e u u0 u1]; exact hu) hN

def lsum : List Int → Int
  | [] => 0
  | x :: xs => x + lsum xs

theorem lsum_app (xs ys : List Int) : lsum (xs ++ ys) = lsum xs + lsum ys := by
  induction xs with
  | nil => show lsum ys = 0 + lsum ys; omega
  | cons x xs ih => show x + lsum (xs ++ ys) = x + lsum xs + lsum ys; rw [ih]; omega

/-- numbers that have a sum that is a rate -/
def LOk (xs : List Int) : Prop := (∀ x ∈ xs, 0 ≤ x) ∧ lsum xs ≤ 4611686018427387904

structure IsLeast (z : Int) (xs : List Int) : Prop where
  mem : z ∈ xs
  le : ∀ y ∈ xs, z ≤ y

theorem IsLeast.unique {z y : Int} {xs ys : List Int} (h : IsLeast z xs) (g : IsLeast y ys) (e : ∀ x, x ∈ xs ↔ x ∈ ys) : z = y := by
  have h1 := h.le y ((e y).2 g.mem)
  have h2 := g.le z ((e z).1 h.mem)
  omega

theorem IsLeast.next {x z : Int} {xs : List Int} {i : Nat} (h : IsLeast z (x :: xs.take i)) (hl : i < xs.length) : IsLeast (mn z (rd xs (i : Int))) (x :: xs.take (i + 1)) := by
  have e : rd xs (i : Int) = xs[i] := by
    unfold rd
    rw [Int.toNat_natCast, List.getD_eq_getElem?_getD, List.getElem?_eq_getElem hl]; rfl
  rw [List.take_succ_eq_append_getElem hl, ← e]
  have hmn : (mn z (rd xs (i : Int)) = z ∧ z ≤ rd xs (i : Int)) ∨ (mn z (rd xs (i : Int)) = rd xs (i : Int) ∧ rd xs (i : Int) ≤ z) := by unfold mn; omega
  constructor
  · rcases hmn with ⟨g, _⟩ | ⟨g, _⟩
    · rw [g]
      rcases List.mem_cons.1 h.mem with q | q
      · rw [q]; exact List.mem_cons_self
      · exact List.mem_cons_of_mem _ (List.mem_append.2 (.inl q))
    · rw [g]; exact List.mem_cons_of_mem _ (List.mem_append.2 (.inr (by simp)))
  · intro y hy
    rcases List.mem_cons.1 hy with q | q
    · have := h.le y (by rw [q]; exact List.mem_cons_self)
      omega
    · rcases List.mem_append.1 q with q | q
      · have := h.le y (List.mem_cons_of_mem _ q)
        omega
      · rw [List.mem_singleton.1 q]; omega

theorem least_loop (xs : List Int) (hx : xs.length ≤ 17592186044416) (x : Int) (d : Nat) : ∀ (i : Nat) (z : Int), i ≤ xs.length → xs.length - i = d → IsLeast z (x :: xs.take i) →
    ∃ r : Int, Ev (fun k => rate_Least.l0 k z xs (xs.length : Int) (i : Int)) r ∧ IsLeast r (x :: xs) := by
  induction d with
  | zero =>
    intro i z hi hd h
    obtain rfl : i = xs.length := by omega
    rw [List.take_length] at h
    refine ⟨z, ?_, h⟩
    refine Ev.step (fun k => by rw [rate_Least.l0]) ?_
    exact Ev.ite_neg (by omega) (Ev.now _)
  | succ d ih =>
    intro i z hi hd h
    obtain ⟨r, X, g⟩ := ih (i + 1) _ (by omega) (by omega) (h.next (by omega))
    refine ⟨r, ?_, g⟩
    refine Ev.step (fun k => by rw [rate_Least.l0]) ?_
    refine Ev.ite_pos (by omega) (Ev.ite_pos (by omega) (Ev.ite_pos (by omega) ?_))
    exact Ev.congr (fun k => by rw [wrap_succ (by omega)]) X

theorem Least_ev (x : Int) (xs : List Int) (hx : xs.length ≤ 17592186044416) : ∃ r : Int, Ev (fun k => rate_Least.f k x xs) r ∧ IsLeast r (x :: xs) :=
  least_loop xs hx x xs.length 0 x (by omega) (by omega) ⟨by simp, fun y hy => by simp at hy; omega⟩

theorem mem_rd9 {xs : List Int} {x : Int} (h : x ∈ xs) : ∃ i : Int, 0 ≤ i ∧ i < (xs.length : Int) ∧ rd xs i = x := by
  obtain ⟨i, hi, e⟩ := mem_gd 0 h
  exact ⟨(i : Int), by omega, by omega, by unfold rd; rw [Int.toNat_natCast]; exact e⟩

theorem awake1 : Ev (fun _ => tollbarlaw1_awake.f) true := Ev.now _

theorem S_lsum_take (xs : List Int) : ∀ i : Nat, i ≤ xs.length → S i (rd xs) = lsum (xs.take i) := by
  intro i
  induction i with
  | zero => intro _; rfl
  | succ i ih =>
    intro h
    have hl : i < xs.length := by omega
    have e : rd xs (i : Int) = xs[i] := by
      unfold rd
      rw [Int.toNat_natCast, List.getD_eq_getElem?_getD, List.getElem?_eq_getElem hl]; rfl
    rw [List.take_succ_eq_append_getElem hl, lsum_app, ← ih (by omega), ← e]
    show S i (rd xs) + rd xs (i : Int) = S i (rd xs) + (rd xs (i : Int) + 0)
    omega

theorem S_lsum (xs : List Int) : S xs.length (rd xs) = lsum xs := by
  have := S_lsum_take xs xs.length (Nat.le_refl _)
  rwa [List.take_length] at this

theorem sumOk_iff (xs : List Int) : SumOk xs ↔ LOk xs := by
  unfold SumOk LOk
  rw [S_lsum]
  constructor
  · rintro ⟨h, g⟩
    refine ⟨fun x hx => ?_, g⟩
    obtain ⟨i, i0, i1, e⟩ := mem_rd9 hx
    rw [← e]; exact h i i0 i1
  · rintro ⟨h, g⟩
    exact ⟨fun i i0 i1 => h _ (gd_mem (by omega)), g⟩

noncomputable def sumR (xs : List Int) : Int × Bool := if LOk xs then (lsum xs, true) else (0, false)

theorem Sum_ev (xs : List Int) (hx : xs.length ≤ 4611686018427387904) : Ev (fun k => rate_Sum.f k xs) (sumR xs) := by
  have X := rate_Sum_ev xs hx
  unfold sumR
  by_cases h : LOk xs
  · rw [if_pos ((sumOk_iff xs).2 h), S_lsum] at X
    rw [if_pos h]; exact X
  · rw [if_neg (fun g => h ((sumOk_iff xs).1 g))] at X
    rw [if_neg h]; exact X

theorem refsum_loop (xs : List Int) (hx : xs.length ≤ 17592186044416) (d : Nat) : ∀ (i : Nat), i ≤ xs.length → xs.length - i = d → (∀ j : Int, 0 ≤ j → j < (i : Int) → 0 ≤ rd xs j) → S i (rd xs) ≤ 4611686018427387904 →
    Ev (fun k => tollbarref1_Sum.l0 k xs (S i (rd xs)) (i : Int)) (if SumOk xs then (S xs.length (rd xs), true) else (0, false)) := by
  induction d with
  | zero =>
    intro i hi hd hp hs
    obtain rfl : i = xs.length := by omega
    rw [if_pos ⟨hp, hs⟩]
    refine Ev.step (fun k => by rw [tollbarref1_Sum.l0]) ?_
    exact Ev.ite_neg (by omega) (Ev.now _)
  | succ d ih =>
    intro i hi hd hp hs
    have h0 : 0 ≤ S i (rd xs) := S_nonneg hp
    refine Ev.step (fun k => by rw [tollbarref1_Sum.l0]) ?_
    refine Ev.ite_pos (by omega) (Ev.ite_pos (by omega) ?_)
    by_cases c : rd xs (i : Int) < 0
    · rw [if_neg (fun g => by have := g.1 (i : Int) (by omega) (by omega); omega)]
      exact Ev.ite_pos c (Ev.now _)
    · refine Ev.ite_neg c ?_
      rw [wrap_id (x := 4611686018427387904 - S i (rd xs)) (by omega) (by omega)]
      have hS : S (i + 1) (rd xs) = S i (rd xs) + rd xs (i : Int) := rfl
      by_cases g : rd xs (i : Int) > 4611686018427387904 - S i (rd xs)
      · rw [if_neg (fun q => by
          have := S_prefix (n := i + 1) (m := xs.length) q.1 (by omega)
          have := q.2
          omega)]
        exact Ev.ite_pos g (Ev.now _)
      · refine Ev.ite_neg g ?_
        have X := ih (i + 1) (by omega) (by omega) (fun j a b => by
          by_cases ej : j = (i : Int)
          · rw [ej]; omega
          · exact hp j a (by omega)) (by omega)
        rw [hS] at X
        exact Ev.congr (fun k => by rw [wrap_succ (by omega), wrap_id (x := S i (rd xs) + rd xs (i : Int)) (by omega) (by omega)]) X

theorem ref_Sum_ev (xs : List Int) (hx : xs.length ≤ 17592186044416) : Ev (fun k => tollbarref1_Sum.f k xs) (sumR xs) := by
  have X : Ev (fun k => tollbarref1_Sum.f k xs) (if SumOk xs then (S xs.length (rd xs), true) else (0, false)) := refsum_loop xs hx xs.length 0 (by omega) (by omega) (fun j a b => by omega) (by show (0 : Int) ≤ 4611686018427387904; decide)
  unfold sumR
  by_cases h : LOk xs
  · rw [if_pos ((sumOk_iff xs).2 h), S_lsum] at X
    rw [if_pos h]; exact X
  · rw [if_neg (fun g => h ((sumOk_iff xs).1 g))] at X
    rw [if_neg h]; exact X

theorem refleast_loop (xs : List Int) (hx : xs.length ≤ 17592186044416) (x : Int) (d : Nat) : ∀ (i : Nat) (z : Int), i ≤ xs.length → xs.length - i = d → IsLeast z (x :: xs.take i) →
    ∃ r : Int, Ev (fun k => tollbarref1_Least.l0 k z xs (i : Int)) r ∧ IsLeast r (x :: xs) := by
  induction d with
  | zero =>
    intro i z hi hd h
    obtain rfl : i = xs.length := by omega
    rw [List.take_length] at h
    refine ⟨z, ?_, h⟩
    refine Ev.step (fun k => by rw [tollbarref1_Least.l0]) ?_
    exact Ev.ite_neg (by omega) (Ev.now _)
  | succ d ih =>
    intro i z hi hd h
    have hl : i < xs.length := by omega
    have h2 := h.next hl
    by_cases c : rd xs (i : Int) < z
    · have e : mn z (rd xs (i : Int)) = rd xs (i : Int) := by unfold mn; omega
      rw [e] at h2
      obtain ⟨r, X, g⟩ := ih (i + 1) _ (by omega) (by omega) h2
      refine ⟨r, ?_, g⟩
      refine Ev.step (fun k => by rw [tollbarref1_Least.l0]) ?_
      refine Ev.ite_pos (by omega) (Ev.ite_pos (by omega) (Ev.ite_pos c ?_))
      exact Ev.congr (fun k => by rw [wrap_succ (by omega)]) X
    · have e : mn z (rd xs (i : Int)) = z := by unfold mn; omega
      rw [e] at h2
      obtain ⟨r, X, g⟩ := ih (i + 1) _ (by omega) (by omega) h2
      refine ⟨r, ?_, g⟩
      refine Ev.step (fun k => by rw [tollbarref1_Least.l0]) ?_
      refine Ev.ite_pos (by omega) (Ev.ite_pos (by omega) (Ev.ite_neg c ?_))
      exact Ev.congr (fun k => by rw [wrap_succ (by omega)]) X

theorem ref_Least_ev (x : Int) (xs : List Int) (hx : xs.length ≤ 17592186044416) : ∃ r : Int, Ev (fun k => tollbarref1_Least.f k x xs) r ∧ IsLeast r (x :: xs) :=
  refleast_loop xs hx x xs.length 0 x (by omega) (by omega) ⟨by simp, fun y hy => by simp at hy; omega⟩

theorem RateSums (xs : List Int) (x : Int) (h : xs.length + 2 < 17592186044416) : Ev (fun k => tollbarlaw1_RateSums.f k xs x) true := by
  obtain ⟨z, Z, hz⟩ := Least_ev x xs (by omega)
  obtain ⟨y, Y, hy⟩ := ref_Least_ev x xs (by omega)
  obtain rfl : z = y := hz.unique hy (fun _ => Iff.rfl)
  unfold tollbarlaw1_RateSums.f
  refine Ev.call (LendInts_eq h) (Ev.bind (Sum_ev xs (by omega)) (Ev.bind (ref_Sum_ev xs (by omega)) (Ev.bind Z (Ev.bind awake1 (Ev.ite_pos rfl ?_)))))
  refine Ev.ite_pos rfl (Ev.ite_pos (by simp) (Ev.bind Y (Ev.ite_pos rfl ?_)))
  exact Ev.bind (KeptInts_ev xs h) (Ev.now _)

end Go.Proofs.Ytbbdbnikogmidaa.Q
end
