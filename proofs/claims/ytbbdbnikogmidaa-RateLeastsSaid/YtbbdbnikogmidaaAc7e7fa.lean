/- Texts of this claim, one behind the other: QRateLeasts. -/
import Derived.Test.YtbbdbnikogmidaaAfdd642
import Derived.Test.YtbbdbnikogmidaaA77cd89
import Derived.Test.YtbbdbnikogmidaaA73e8d3
section
/- What the law RateLeasts leans on, and the law itself on what its printed walk tells: plain. -/
namespace Go.Proofs.Ytbbdbnikogmidaa.Q
open Go.RowKit Go.Proofs.YtbbdbnikogmidaaW.PrintWords Go.Proofs.YtbbdbnikogmidaaW.PrintMore Go.Proofs.Ytbbdbnikogmidaa.PAll Go.Proofs.Ytbbdbnikogmidaa.Plain
set_option linter.unusedVariables false
set_option linter.unusedSimpArgs false
attribute [local instance] Classical.propDecidable

/-- links one behind the other lead from u to w -/
def Trail (N : Net) : Int → List Int → Int → Prop
  | u, [], w => u = w
  | u, l :: p, w => (0 ≤ l ∧ l < (N.m : Int)) ∧ N.a l = u ∧ Trail N (N.b l) p w

theorem Trail.mem {N : Net} {p : List Int} : ∀ {u w : Int}, Trail N u p w → ∀ l ∈ p, 0 ≤ l ∧ l < (N.m : Int) := by
  induction p with
  | nil => intro u w h l hl; cases hl
  | cons k p ih =>
    intro u w h l hl
    rcases List.mem_cons.1 hl with e | hl
    · rw [e]; exact h.1
    · exact ih h.2.2 l hl

def live (N : Net) (f : Int → Int) (X : Int → Bool) (v : Int) : Prop := ∃ i : Int, 0 ≤ i ∧ i < (N.m : Int) ∧ N.a i = v ∧ X (N.b i) = true ∧ 0 < f i

def closed (N : Net) (f : Int → Int) (X : Int → Bool) : Prop := ∀ v : Int, 0 ≤ v → v < (N.V : Int) → X v = true → live N f X v

theorem live.mono {N : Net} {f : Int → Int} {X Y : Int → Bool} {v : Int} (h : live N f X v) (g : ∀ v : Int, 0 ≤ v → v < (N.V : Int) → X v = true → Y v = true) (hN : N.ok) : live N f Y v := by
  obtain ⟨i, i0, i1, a, b, c⟩ := h
  have := hN.h i i0 i1
  exact ⟨i, i0, i1, a, g _ this.2.1.1 this.2.1.2 b, c⟩

theorem closed.congr {N : Net} (hN : N.ok) {f : Int → Int} {X Y : Int → Bool} (h : closed N f X) (e : ∀ u : Int, 0 ≤ u → u < (N.V : Int) → Y u = X u) : closed N f Y := by
  intro v v0 v1 hv
  rw [e v v0 v1] at hv
  exact (h v v0 v1 hv).mono (fun u u0 u1 hu => by rw [e u u0 u1]; exact hu) hN

def lsum : List Int → Int
  | [] => 0
  | x :: xs => x + lsum xs

/-- numbers that have a sum that is a rate -/
def LOk (xs : List Int) : Prop := (∀ x ∈ xs, 0 ≤ x) ∧ lsum xs ≤ 4611686018427387904

theorem LOk.one {x : Int} : LOk [x] ↔ 0 ≤ x ∧ x ≤ 4611686018427387904 := by
  unfold LOk
  constructor
  · rintro ⟨h, g⟩
    have := h x (by simp)
    have e : lsum [x] = x := by show x + 0 = x; omega
    omega
  · rintro ⟨h, g⟩
    refine ⟨fun y hy => by rw [List.mem_singleton.1 hy]; exact h, ?_⟩
    show x + 0 ≤ _
    omega

structure IsLeast (z : Int) (xs : List Int) : Prop where
  mem : z ∈ xs
  le : ∀ y ∈ xs, z ≤ y

theorem IsLeast.next {x z : Int} {xs : List Int} {i : Nat} (h : IsLeast z (x :: xs.take i)) (hl : i < xs.length) : IsLeast (mn z (rd xs (i : Int))) (x :: xs.take (i + 1)) := by
  have e : rd xs (i : Int) = xs[i] := by
    unfold rd
    rw [Int.toNat_natCast, List.getD_eq_getElem?_getD, List.getElem?_eq_getElem hl]; rfl
  rw [List.take_succ_eq_append_getElem hl, ← e]
  have hmn : (mn z (rd xs (i : Int)) = z ∧ z ≤ rd xs (i : Int)) ∨ (mn z (rd xs (i : Int)) = rd xs (i : Int) ∧ rd xs (i : Int) ≤ z) := by unfold mn; omega
  constructor
  · rcases hmn with ⟨g, _⟩ | ⟨g, _⟩
    · rw [g]
      rcases List.mem_cons.1 h.mem with q | q
      · rw [q]; exact List.mem_cons_self
      · exact List.mem_cons_of_mem _ (List.mem_append.2 (.inl q))
    · rw [g]; exact List.mem_cons_of_mem _ (List.mem_append.2 (.inr (by simp)))
  · intro y hy
    rcases List.mem_cons.1 hy with q | q
    · have := h.le y (by rw [q]; exact List.mem_cons_self)
      omega
    · rcases List.mem_append.1 q with q | q
      · have := h.le y (List.mem_cons_of_mem _ q)
        omega
      · rw [List.mem_singleton.1 q]; omega

theorem least_loop (xs : List Int) (hx : xs.length ≤ 17592186044416) (x : Int) (d : Nat) : ∀ (i : Nat) (z : Int), i ≤ xs.length → xs.length - i = d → IsLeast z (x :: xs.take i) →
    ∃ r : Int, Ev (fun k => rate_Least.l0 k z xs (xs.length : Int) (i : Int)) r ∧ IsLeast r (x :: xs) := by
  induction d with
  | zero =>
    intro i z hi hd h
    obtain rfl : i = xs.length := by omega
    rw [List.take_length] at h
    refine ⟨z, ?_, h⟩
    refine Ev.step (fun k => by rw [rate_Least.l0]) ?_
    exact Ev.ite_neg (by omega) (Ev.now _)
  | succ d ih =>
    intro i z hi hd h
    obtain ⟨r, X, g⟩ := ih (i + 1) _ (by omega) (by omega) (h.next (by omega))
    refine ⟨r, ?_, g⟩
    refine Ev.step (fun k => by rw [rate_Least.l0]) ?_
    refine Ev.ite_pos (by omega) (Ev.ite_pos (by omega) (Ev.ite_pos (by omega) ?_))
    exact Ev.congr (fun k => by rw [wrap_succ (by omega)]) X

theorem Least_ev (x : Int) (xs : List Int) (hx : xs.length ≤ 17592186044416) : ∃ r : Int, Ev (fun k => rate_Least.f k x xs) r ∧ IsLeast r (x :: xs) :=
  least_loop xs hx x xs.length 0 x (by omega) (by omega) ⟨by simp, fun y hy => by simp at hy; omega⟩

theorem awake1 : Ev (fun _ => tollbarlaw1_awake.f) true := Ev.now _

theorem leasts_loop (xs : List Int) (hx : xs.length ≤ 17592186044416) (x z : Int) (hz : IsLeast z (x :: xs)) (d : Nat) : ∀ (i : Nat) (one : Bool), i ≤ xs.length → xs.length - i = d → (one = true ↔ z ∈ x :: xs.take i) →
    Ev (fun k => tollbarlaw1_RateLeasts.l0 k x xs z one (i : Int)) true := by
  induction d with
  | zero =>
    intro i one hi hd h
    obtain rfl : i = xs.length := by omega
    rw [List.take_length] at h
    have hx := hz.le x List.mem_cons_self
    refine Ev.step (fun k => by rw [tollbarlaw1_RateLeasts.l0]) ?_
    refine Ev.ite_neg (by omega) (Ev.bind awake1 (Ev.ite_pos rfl (Ev.ite_pos (h.2 hz.mem) ?_)))
    rw [decide_eq_true hx]
    exact Ev.now _
  | succ d ih =>
    intro i one hi hd h
    have hl : i < xs.length := by omega
    have e : rd xs (i : Int) = xs[i] := by
      unfold rd
      rw [Int.toNat_natCast, List.getD_eq_getElem?_getD, List.getElem?_eq_getElem hl]; rfl
    have hle := hz.le (rd xs (i : Int)) (List.mem_cons_of_mem _ (by rw [e]; exact List.getElem_mem hl))
    have htk : z ∈ x :: xs.take (i + 1) ↔ z ∈ x :: xs.take i ∨ z = rd xs (i : Int) := by
      rw [List.take_succ_eq_append_getElem hl, ← e]
      simp only [List.mem_cons, List.mem_append, List.not_mem_nil, or_false, or_assoc]
    refine Ev.step (fun k => by rw [tollbarlaw1_RateLeasts.l0]) ?_
    refine Ev.ite_pos (by omega) (Ev.ite_pos (by omega) (Ev.ite_neg (by omega) ?_))
    cases one with
    | true =>
      refine Ev.ite_pos rfl ?_
      exact Ev.congr (fun k => by rw [wrap_succ (by omega)]) (ih (i + 1) true (by omega) (by omega) ⟨fun _ => htk.2 (.inl (h.1 rfl)), fun _ => rfl⟩)
    | false =>
      refine Ev.ite_neg (by decide) ?_
      have hn : ¬ z ∈ x :: xs.take i := fun g => by have := h.2 g; cases this
      refine Ev.congr (fun k => by rw [wrap_succ (by omega)]) (ih (i + 1) (rd xs (i : Int) == z) (by omega) (by omega) ?_)
      rw [htk, beq_iff_eq]
      exact ⟨fun g => .inr g.symm, fun g => g.elim (fun q => absurd q hn) (fun q => q.symm)⟩

theorem RateLeasts (x : Int) (xs : List Int) (h : xs.length ≤ 17592186044416) : Ev (fun k => tollbarlaw1_RateLeasts.f k x xs) true := by
  obtain ⟨z, Z, hz⟩ := Least_ev x xs h
  unfold tollbarlaw1_RateLeasts.f
  refine Ev.bind Z ?_
  refine leasts_loop xs h x z hz xs.length 0 (z == x) (by omega) (by omega) ?_
  rw [beq_iff_eq, List.take_zero, List.mem_singleton]

end Go.Proofs.Ytbbdbnikogmidaa.Q
end
