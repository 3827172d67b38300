/- Texts of this claim, one behind the other: QCycleTurned. -/
import Derived.Test.YtjjfpkfpmpeikaaA884ba4
import Derived.Test.YtjjfpkfpmpeikaaA95321a
import Derived.Test.YtjjfpkfpmpeikaaA514c28
import Derived.Test.YtjjfpkfpmpeikaaA6b8776
import Derived.Test.YtjjfpkfpmpeikaaA956850
section
/- What the law CycleTurned leans on, and the law itself on what its printed walk tells: plain. -/
namespace Go.Proofs.Ytjjfpkfpmpeikaa.Q
open Go.RowKit Go.Proofs.YtjjfpkfpmpeikaaW.PrintWords Go.Proofs.YtjjfpkfpmpeikaaW.PrintMore Go.Proofs.Ytjjfpkfpmpeikaa.PAll Go.Proofs.Ytjjfpkfpmpeikaa.Plain
set_option linter.unusedVariables false
set_option linter.unusedSimpArgs false
attribute [local instance] Classical.propDecidable
/-! ### caps, lists within -/

/-- links one behind the other lead from u to w -/
def Trail (N : Net) : Int → List Int → Int → Prop
  | u, [], w => u = w
  | u, l :: p, w => (0 ≤ l ∧ l < (N.m : Int)) ∧ N.a l = u ∧ Trail N (N.b l) p w

theorem Trail.app {N : Net} {p q : List Int} : ∀ {u v w : Int}, Trail N u p v → Trail N v q w → Trail N u (p ++ q) w := by
  induction p with
  | nil => intro u v w h g; cases h; exact g
  | cons l p ih => intro u v w h g; exact ⟨h.1, h.2.1, ih h.2.2 g⟩

theorem Trail.mem {N : Net} {p : List Int} : ∀ {u w : Int}, Trail N u p w → ∀ l ∈ p, 0 ≤ l ∧ l < (N.m : Int) := by
  induction p with
  | nil => intro u w h l hl; cases hl
  | cons k p ih =>
    intro u w h l hl
    rcases List.mem_cons.1 hl with e | hl
    · rw [e]; exact h.1
    · exact ih h.2.2 l hl

theorem Trail.split {N : Net} {p q : List Int} : ∀ {u w : Int}, Trail N u (p ++ q) w → ∃ v, Trail N u p v ∧ Trail N v q w := by
  induction p with
  | nil => intro u w h; exact ⟨u, rfl, h⟩
  | cons l p ih =>
    intro u w h
    obtain ⟨v, h1, h2⟩ := ih h.2.2
    exact ⟨v, ⟨h.1, h.2.1, h1⟩, h2⟩

theorem gain_upd {N : Net} {f : Int → Int} {l x : Int} (h0 : 0 ≤ l) (h1 : l < (N.m : Int)) (v : Int) :
    gain N (upd f l x) v = gain N f v + (if N.a l = v then x - f l else 0) - (if N.b l = v then x - f l else 0) := by
  unfold gain
  have e : S N.m (fun i => (if N.a i = v then upd f l x i else 0) - (if N.b i = v then upd f l x i else 0)) = S N.m (upd (fun i => (if N.a i = v then f i else 0) - (if N.b i = v then f i else 0)) l ((if N.a l = v then x else 0) - (if N.b l = v then x else 0))) := by
    refine S_congr (fun i _ _ => ?_)
    unfold upd
    by_cases c : i = l
    · subst c; simp
    · simp [c]
  rw [e, S_upd h0 h1]
  by_cases c1 : N.a l = v <;> by_cases c2 : N.b l = v <;> simp [c1, c2] <;> omega

/-- by less on each link of a list -/
def lessAll (f : Int → Int) (y : Int) : List Int → (Int → Int)
  | [] => f
  | l :: p => lessAll (upd f l (f l - y)) y p

theorem gain_less {N : Net} {y : Int} (p : List Int) : ∀ {u w : Int} (f : Int → Int), Trail N u p w → ∀ v : Int,
    gain N (lessAll f y p) v = gain N f v - (if u = v then y else 0) + (if w = v then y else 0) := by
  induction p with
  | nil =>
    intro u w f h v
    cases h
    show gain N f v = _
    omega
  | cons l p ih =>
    intro u w f h v
    show gain N (lessAll (upd f l (f l - y)) y p) v = _
    rw [ih _ h.2.2 v, gain_upd h.1.1 h.1.2 v, h.2.1]
    by_cases c1 : u = v <;> by_cases c2 : N.b l = v <;> by_cases c3 : w = v <;> simp [c1, c2, c3] <;> omega

theorem lessAll_out {y : Int} (p : List Int) : ∀ (f : Int → Int) {i : Int}, i ∉ p → lessAll f y p i = f i := by
  induction p with
  | nil => intro f i h; rfl
  | cons l p ih =>
    intro f i h
    show lessAll (upd f l (f l - y)) y p i = _
    rw [ih _ (fun g => h (List.mem_cons_of_mem _ g))]
    unfold upd
    rw [if_neg (fun e => h (by rw [e]; exact List.mem_cons_self))]

theorem lessAll_in {y : Int} (p : List Int) : ∀ (f : Int → Int) {i : Int}, p.Nodup → i ∈ p → lessAll f y p i = f i - y := by
  induction p with
  | nil => intro f i h g; cases g
  | cons l p ih =>
    intro f i h g
    show lessAll (upd f l (f l - y)) y p i = _
    have hn := List.nodup_cons.1 h
    rcases List.mem_cons.1 g with e | g
    · rw [e, lessAll_out p _ hn.1]
      unfold upd; rw [if_pos rfl]
    · rw [ih _ hn.2 g]
      unfold upd
      rw [if_neg (fun e => hn.1 (by rw [← e]; exact g))]

def live (N : Net) (f : Int → Int) (X : Int → Bool) (v : Int) : Prop := ∃ i : Int, 0 ≤ i ∧ i < (N.m : Int) ∧ N.a i = v ∧ X (N.b i) = true ∧ 0 < f i

def closed (N : Net) (f : Int → Int) (X : Int → Bool) : Prop := ∀ v : Int, 0 ≤ v → v < (N.V : Int) → X v = true → live N f X v

theorem live.mono {N : Net} {f : Int → Int} {X Y : Int → Bool} {v : Int} (h : live N f X v) (g : ∀ v : Int, 0 ≤ v → v < (N.V : Int) → X v = true → Y v = true) (hN : N.ok) : live N f Y v := by
  obtain ⟨i, i0, i1, a, b, c⟩ := h
  have := hN.h i i0 i1
  exact ⟨i, i0, i1, a, g _ this.2.1.1 this.2.1.2 b, c⟩

/-- links with flow that lead back to where they began -/
structure Rnd (N : Net) (f : Int → Int) (p : List Int) : Prop where
  ne : p ≠ []
  round : ∃ u, Trail N u p u
  flow : ∀ l ∈ p, 0 < f l

/-- a cycle of links with flow: each link once, each vertex once -/
structure Cyc (N : Net) (f : Int → Int) (p : List Int) : Prop extends Rnd N f p where
  once : (p.map N.a).Nodup

theorem nodup_of_map {g : Int → Int} {p : List Int} (h : (p.map g).Nodup) : p.Nodup := by
  induction p with
  | nil => exact List.nodup_nil
  | cons l p ih =>
    rw [List.map_cons, List.nodup_cons] at h
    rw [List.nodup_cons]
    exact ⟨fun g2 => h.1 (List.mem_map.2 ⟨l, g2, rfl⟩), ih h.2⟩

theorem Cyc.nodup {N : Net} {f : Int → Int} {p : List Int} (h : Cyc N f p) : p.Nodup := nodup_of_map h.once

/-- what a cycle meets is closed -/
theorem Rnd.goes {N : Net} {f : Int → Int} {p : List Int} (h : Rnd N f p) : ∀ v : Int, v ∈ p.map N.a → ∃ i ∈ p, N.a i = v ∧ N.b i ∈ p.map N.a := by
  obtain ⟨u, t⟩ := h.round
  have key : ∀ (q : List Int) (x w : Int), Trail N x q w → ∀ i ∈ q, N.b i ∈ q.map N.a ∨ N.b i = w := by
    intro q
    induction q with
    | nil => intro x w _ i hi; cases hi
    | cons l q ih =>
      intro x w t i hi
      rcases List.mem_cons.1 hi with e | hi
      · subst e
        cases q with
        | nil => exact .inr t.2.2
        | cons k q => exact .inl (by rw [← t.2.2.2.1]; simp)
      · rcases ih _ _ t.2.2 i hi with g | g
        · exact .inl (by simp only [List.map_cons]; exact List.mem_cons_of_mem _ g)
        · exact .inr g
  intro v hv
  obtain ⟨i, hi, e⟩ := List.mem_map.1 hv
  refine ⟨i, hi, e, ?_⟩
  rcases key p u u t i hi with g | g
  · exact g
  · rw [g]
    have hne := h.ne
    cases p with
    | nil => exact absurd rfl hne
    | cons l p => rw [← t.2.1]; simp

theorem Rnd.turn_closed {N : Net} {f : Int → Int} {p : List Int} (h : Rnd N f p) : ∀ v : Int, v ∈ p.map N.a → ∃ i ∈ p, N.b i = v ∧ N.a i ∈ p.map N.a := by
  obtain ⟨u, t⟩ := h.round
  have key : ∀ (q : List Int) (x w : Int), Trail N x q w → q ≠ [] → ∀ v ∈ q.map N.a, v = x ∨ ∃ i ∈ q, N.b i = v := by
    intro q
    induction q with
    | nil => intro x w _ hne; exact absurd rfl hne
    | cons l q ih =>
      intro x w t _ v hv
      simp only [List.map_cons] at hv
      rcases List.mem_cons.1 hv with e | hv
      · exact .inl (by rw [e]; exact t.2.1)
      · have hq : q ≠ [] := by intro e; rw [e] at hv; cases hv
        rcases ih _ _ t.2.2 hq v hv with g | ⟨i, hi, g⟩
        · exact .inr ⟨l, List.mem_cons_self, g.symm⟩
        · exact .inr ⟨i, List.mem_cons_of_mem _ hi, g⟩
  have last : ∀ (q : List Int) (x w : Int), Trail N x q w → q ≠ [] → ∃ i ∈ q, N.b i = w := by
    intro q
    induction q with
    | nil => intro x w _ hne; exact absurd rfl hne
    | cons l q ih =>
      intro x w t _
      cases q with
      | nil => exact ⟨l, by simp, t.2.2⟩
      | cons k q =>
        obtain ⟨i, hi, e⟩ := ih _ _ t.2.2 (by simp)
        exact ⟨i, List.mem_cons_of_mem _ hi, e⟩
  intro v hv
  rcases key p u u t h.ne v hv with e | ⟨i, hi, e⟩
  · obtain ⟨i, hi, e2⟩ := last p u u t h.ne
    exact ⟨i, hi, by rw [e2, e], List.mem_map.2 ⟨i, hi, rfl⟩⟩
  · exact ⟨i, hi, e, List.mem_map.2 ⟨i, hi, rfl⟩⟩

/-- X' lies in X and holds each closed set that X holds -/
structure Peeled (N : Net) (f : Int → Int) (X X' : Int → Bool) : Prop where
  sub : ∀ v : Int, 0 ≤ v → v < (N.V : Int) → X' v = true → X v = true
  all : ∀ Y : Int → Bool, closed N f Y → (∀ v : Int, 0 ≤ v → v < (N.V : Int) → Y v = true → X v = true) → ∀ v : Int, 0 ≤ v → v < (N.V : Int) → Y v = true → X' v = true

theorem peel_step {N : Net} (hN : N.ok) {f : Int → Int} {X X' : Int → Bool} {b : Bool} {v : Int} (hX : ∀ u : Int, 0 ≤ u → u < (N.V : Int) → X' u = if u = v then (X v && b) else X u) (hb : X v = true → (b = true ↔ live N f X v)) : Peeled N f X X' := by
  constructor
  · intro u u0 u1 h
    rw [hX u u0 u1] at h
    by_cases e : u = v
    · rw [if_pos e] at h
      rw [e]
      simp at h; exact h.1
    · rwa [if_neg e] at h
  · intro Y hY hs u u0 u1 h
    rw [hX u u0 u1]
    by_cases e : u = v
    · rw [if_pos e]
      have h1 := hs u u0 u1 h
      rw [e] at h1
      have h2 : live N f X u := (hY u u0 u1 h).mono hs hN
      rw [e] at h2
      rw [h1, (hb h1).2 h2]; rfl
    · rw [if_neg e]; exact hs u u0 u1 h

theorem peel_same {N : Net} {X X' : Int → Bool} {b : Bool} {v : Int} (hX : ∀ u : Int, 0 ≤ u → u < (N.V : Int) → X' u = if u = v then (X v && b) else X u) (hb : X v = true → b = true) : ∀ u : Int, 0 ≤ u → u < (N.V : Int) → X' u = X u := by
  intro u u0 u1
  rw [hX u u0 u1]
  by_cases e : u = v
  · rw [if_pos e, e]
    cases h : X v with
    | false => rfl
    | true => rw [hb h]; rfl
  · rw [if_neg e]

theorem peel_less {N : Net} {X X' : Int → Bool} {b : Bool} {v : Int} (hX : ∀ u : Int, 0 ≤ u → u < (N.V : Int) → X' u = if u = v then (X v && b) else X u) (v0 : 0 ≤ v) (v1 : v < (N.V : Int)) (h : X v = true) (hb : b = false) : cnt N.V X' + 1 ≤ cnt N.V X := by
  refine cnt_lt (fun u u0 u1 hu => ?_) v0 v1 ?_ h
  · rw [hX u u0 u1] at hu
    by_cases e : u = v
    · rw [e]; exact h
    · rwa [if_neg e] at hu
  · rw [hX v v0 v1, if_pos rfl, h, hb]; rfl

theorem closed.congr {N : Net} (hN : N.ok) {f : Int → Int} {X Y : Int → Bool} (h : closed N f X) (e : ∀ u : Int, 0 ≤ u → u < (N.V : Int) → Y u = X u) : closed N f Y := by
  intro v v0 v1 hv
  rw [e v v0 v1] at hv
  exact (h v v0 v1 hv).mono (fun u u0 u1 hu => by rw [e u u0 u1]; exact hu) hN

/-- each one once: not more than there are -/
theorem nodup_len {V : Nat} {p : List Int} (h : p.Nodup) (hp : ∀ x ∈ p, 0 ≤ x ∧ x < (V : Int)) : (p.length : Int) ≤ cnt V (fun v => decide (v ∈ p)) := by
  induction p with
  | nil => exact cnt_nonneg V _
  | cons x p ih =>
    have hn := List.nodup_cons.1 h
    have hx := hp x List.mem_cons_self
    have h1 := ih hn.2 (fun y hy => hp y (List.mem_cons_of_mem _ hy))
    have h2 := cnt_lt (V := V) (P := fun v => decide (v ∈ p)) (Q := fun v => decide (v ∈ x :: p)) (fun v _ _ hv => by
      rw [decide_eq_true_eq] at hv ⊢; exact List.mem_cons_of_mem _ hv) hx.1 hx.2 (decide_eq_false hn.1) (decide_eq_true List.mem_cons_self)
    rw [List.length_cons]
    omega

theorem nodup_le {V : Nat} {p : List Int} (h : p.Nodup) (hp : ∀ x ∈ p, 0 ≤ x ∧ x < (V : Int)) : p.length ≤ V := by
  have h1 := nodup_len h hp
  have h2 := cnt_le V (fun v => decide (v ∈ p))
  omega

/-- what a round of links meets, as a set -/
def meets (N : Net) (p : List Int) (v : Int) : Bool := decide (v ∈ p.map N.a)

theorem rnd_set {N : Net} {f : Int → Int} {p : List Int} (h : Rnd N f p) : closed N f (meets N p) := by
  intro v v0 v1 hv
  obtain ⟨i, hi, e, g⟩ := h.goes v (of_decide_eq_true hv)
  obtain ⟨u, t⟩ := h.round
  have := t.mem i hi
  exact ⟨i, this.1, this.2, e, decide_eq_true g, h.flow i hi⟩

theorem rnd_set_turn {N : Net} {f : Int → Int} {p : List Int} (h : Rnd N f p) : closed N.turn f (meets N p) := by
  intro v v0 v1 hv
  obtain ⟨i, hi, e, g⟩ := h.turn_closed v (of_decide_eq_true hv)
  obtain ⟨u, t⟩ := h.round
  have := t.mem i hi
  exact ⟨i, this.1, this.2, e, decide_eq_true g, h.flow i hi⟩

theorem rnd_some {N : Net} {f : Int → Int} {p : List Int} (hN : N.ok) (h : Rnd N f p) : ∃ v : Int, 0 ≤ v ∧ v < (N.V : Int) ∧ meets N p v = true := by
  obtain ⟨u, t⟩ := h.round
  cases p with
  | nil => exact absurd rfl h.ne
  | cons l p =>
    have h1 := hN.h l t.1.1 t.1.2
    exact ⟨N.a l, h1.1.1, h1.1.2, decide_eq_true (by simp)⟩

theorem Trail.drop_rd {N : Net} {p : List Int} {u w : Int} (t : Trail N u p w) {k : Nat} (hk : k < p.length) : Trail N ((p.map N.a).getD k 0) (p.drop k) w := by
  have e : p = p.take k ++ p.drop k := (List.take_append_drop k p).symm
  rw [e] at t
  obtain ⟨x, _, t2⟩ := t.split
  have e2 : p.drop k = p[k] :: p.drop (k + 1) := List.drop_eq_getElem_cons hk
  rw [e2] at t2 ⊢
  have e3 : (p.map N.a).getD k 0 = N.a p[k] := by
    rw [List.getD_eq_getElem?_getD, List.getElem?_map, List.getElem?_eq_getElem hk]; rfl
  exact ⟨t2.1, e3.symm, t2.2.2⟩

theorem walk_cyc {N : Net} {f : Int → Int} {p : List Int} {u w : Int} (t : Trail N u p w) (hf : ∀ l ∈ p, 0 < f l) (hn : (p.map N.a).Nodup) {k : Nat} (hk : k < p.length) (e : (p.map N.a).getD k 0 = w) : Cyc N f (p.drop k) := by
  have t2 := t.drop_rd hk
  rw [e] at t2
  refine ⟨⟨fun h => ?_, ⟨w, t2⟩, fun l hl => hf l (List.mem_of_mem_drop hl)⟩, ?_⟩
  · have := congrArg List.length h
    simp at this; omega
  · rw [List.map_drop]
    exact hn.sublist (List.drop_sublist _ _)

/-- links that have flow -/
def flows (m : Nat) (f : Int → Int) : Int := cnt m (fun i => decide (0 < f i))

/-- the least of a cycle's flow, taken off it -/
theorem Cyc.less {N : Net} {f : Int → Int} {p : List Int} (h : Cyc N f p) {y : Int} (y0 : 0 < y) (hy : ∀ l ∈ p, y ≤ f l) (he : ∃ l ∈ p, f l = y) :
    (∀ v : Int, gain N (lessAll f y p) v = gain N f v) ∧ (∀ i : Int, (0 ≤ f i → 0 ≤ lessAll f y p i) ∧ lessAll f y p i ≤ f i) ∧ flows N.m (lessAll f y p) + 1 ≤ flows N.m f := by
  obtain ⟨u, t⟩ := h.round
  have hn := h.nodup
  refine ⟨fun v => ?_, fun i => ?_, ?_⟩
  · rw [gain_less p f t v]; omega
  · by_cases c : i ∈ p
    · rw [lessAll_in p f hn c]
      have := hy i c
      omega
    · rw [lessAll_out p f c]; omega
  · obtain ⟨l, hl, e⟩ := he
    have hm := t.mem l hl
    refine cnt_lt (fun i i0 i1 hi => ?_) hm.1 hm.2 ?_ (decide_eq_true (by omega))
    · rw [decide_eq_true_eq] at hi ⊢
      by_cases c : i ∈ p
      · exact h.flow i c
      · rwa [lessAll_out p f c] at hi
    · rw [decide_eq_false_iff_not, lessAll_in p f hn hl]; omega

def lsum : List Int → Int
  | [] => 0
  | x :: xs => x + lsum xs

theorem lsum_app (xs ys : List Int) : lsum (xs ++ ys) = lsum xs + lsum ys := by
  induction xs with
  | nil => show lsum ys = 0 + lsum ys; omega
  | cons x xs ih => show x + lsum (xs ++ ys) = x + lsum xs + lsum ys; rw [ih]; omega

theorem lsum_nonneg {xs : List Int} (h : ∀ x ∈ xs, 0 ≤ x) : 0 ≤ lsum xs := by
  induction xs with
  | nil => exact Int.le_refl _
  | cons x xs ih =>
    have h1 := h x List.mem_cons_self
    have h2 := ih (fun y hy => h y (List.mem_cons_of_mem _ hy))
    show 0 ≤ x + lsum xs
    omega

/-- numbers that have a sum that is a rate -/
def LOk (xs : List Int) : Prop := (∀ x ∈ xs, 0 ≤ x) ∧ lsum xs ≤ 4611686018427387904

theorem LOk.app {xs ys : List Int} : LOk (xs ++ ys) ↔ LOk xs ∧ LOk ys ∧ lsum xs + lsum ys ≤ 4611686018427387904 := by
  unfold LOk
  rw [lsum_app]
  constructor
  · rintro ⟨h, g⟩
    have h1 : ∀ x ∈ xs, 0 ≤ x := fun x hx => h x (List.mem_append.2 (.inl hx))
    have h2 : ∀ x ∈ ys, 0 ≤ x := fun x hx => h x (List.mem_append.2 (.inr hx))
    have := lsum_nonneg h1
    have := lsum_nonneg h2
    exact ⟨⟨h1, by omega⟩, ⟨h2, by omega⟩, g⟩
  · rintro ⟨h, g, e⟩
    refine ⟨fun x hx => ?_, e⟩
    rcases List.mem_append.1 hx with hx | hx
    · exact h.1 x hx
    · exact g.1 x hx

theorem LOk.turn {xs ys : List Int} : LOk (xs ++ ys) ↔ LOk (ys ++ xs) := by
  rw [LOk.app, LOk.app]
  constructor
  · rintro ⟨a, b, c⟩; exact ⟨b, a, by omega⟩
  · rintro ⟨a, b, c⟩; exact ⟨b, a, by omega⟩

theorem S_prefix {f : Int → Int} {n m : Nat} (h : ∀ i : Int, 0 ≤ i → i < (m : Int) → 0 ≤ f i) (hn : n ≤ m) : S n f ≤ S m f := by
  induction m with
  | zero => obtain rfl : n = 0 := by omega
            exact Int.le_refl _
  | succ m ih =>
    by_cases e : n = m + 1
    · subst e; exact Int.le_refl _
    · have h1 := ih (fun i a b => h i a (by omega)) (by omega)
      have h2 := h (m : Int) (by omega) (by omega)
      simp only [S]
      omega

theorem rate_Is_eq (x : Int) : rate_Is.f x = some (decide (0 ≤ x ∧ x ≤ 4611686018427387904)) := by
  unfold rate_Is.f
  by_cases h : x ≥ 0
  · rw [if_pos h]; congr 1; simp; omega
  · rw [if_neg h]; congr 1; simp; omega

def SumOk (xs : List Int) : Prop := (∀ i : Int, 0 ≤ i → i < (xs.length : Int) → 0 ≤ rd xs i) ∧ S xs.length (rd xs) ≤ 4611686018427387904

theorem sum_loop (xs : List Int) (hx : xs.length ≤ 4611686018427387904) (d : Nat) : ∀ (i : Nat), i ≤ xs.length → xs.length - i = d → (∀ j : Int, 0 ≤ j → j < (i : Int) → 0 ≤ rd xs j) → S i (rd xs) ≤ 4611686018427387904 →
    Ev (fun k => rate_Sum.l0 k (S i (rd xs)) xs (xs.length : Int) (i : Int)) (if SumOk xs then (S xs.length (rd xs), true) else (0, false)) := by
  induction d with
  | zero =>
    intro i hi hd hp hs
    obtain rfl : i = xs.length := by omega
    refine Ev.step (fun k => by rw [rate_Sum.l0]) ?_
    refine Ev.ite_neg (by omega) ?_
    rw [if_pos ⟨hp, hs⟩]
    exact Ev.now _
  | succ d ih =>
    intro i hi hd hp hs
    have h0 : 0 ≤ S i (rd xs) := S_nonneg hp
    refine Ev.step (fun k => by rw [rate_Sum.l0]) ?_
    refine Ev.ite_pos (by omega) ?_
    refine Ev.ite_pos (by omega) ?_
    refine Ev.ite_pos (by omega) ?_
    refine Ev.call (rate_Is_eq _) ?_
    by_cases hr : 0 ≤ rd xs i ∧ rd xs i ≤ 4611686018427387904
    · refine Ev.ite_pos (decide_eq_true hr) ?_
      by_cases hm : rd xs i > 4611686018427387904 - S i (rd xs)
      · refine Ev.ite_pos (by rw [wrap_id (by omega) (by omega)]; exact hm) ?_
        rw [if_neg]
        · exact Ev.now _
        · intro ho
          have := S_prefix (n := i + 1) ho.1 (by omega)
          simp only [S] at this
          have := ho.2
          omega
      · refine Ev.ite_neg (by rw [wrap_id (by omega) (by omega)]; exact hm) ?_
        have e2 : wrap64 (S i (rd xs) + rd xs i) = S (i + 1) (rd xs) := by rw [wrap_id (by omega) (by omega)]; rfl
        have e3 : wrap64 ((i : Int) + 1) = ((i + 1 : Nat) : Int) := wrap_succ (by omega)
        refine Ev.congr (fun k => by rw [e2, e3]) (ih (i + 1) (by omega) (by omega) ?_ ?_)
        · intro j a b
          by_cases e : j = i
          · subst e; exact hr.1
          · exact hp j a (by omega)
        · simp only [S]; omega
    · refine Ev.ite_neg (by simp only [decide_eq_true_eq]; exact hr) ?_
      rw [if_neg]
      · exact Ev.now _
      · intro ho
        have h1 := ho.1 i (by omega) (by omega)
        have := S_one_le ho.1 (k := (i : Int)) (by omega) (by omega)
        have := ho.2
        exact hr ⟨h1, by omega⟩

theorem rate_Sum_ev (xs : List Int) (hx : xs.length ≤ 4611686018427387904) : Ev (fun k => rate_Sum.f k xs) (if SumOk xs then (S xs.length (rd xs), true) else (0, false)) :=
  sum_loop xs hx xs.length 0 (by omega) (by omega) (fun j a b => by omega) (by simp [S])

def lA (ls : List S42) (i : Int) : Int := (rd_T42 ls i).f0

def lB (ls : List S42) (i : Int) : Int := (rd_T42 ls i).f1

def lC (ls : List S42) (i : Int) : Int := (rd_T42 ls i).f2

def net (V : Int) (ls : List S42) : Net := { V := V.toNat, m := ls.length, a := lA ls, b := lB ls }

structure GOk (V : Int) (ls : List S42) : Prop where
  v2 : 2 ≤ V
  v8 : V ≤ 8
  m16 : ls.length ≤ 16
  ends : (net V ls).ok
  cap : ∀ i : Int, 0 ≤ i → i < (ls.length : Int) → 0 ≤ lC ls i
  sum : S ls.length (lC ls) ≤ 4611686018427387904

theorem net_V {V : Int} {ls : List S42} (h : 0 ≤ V) : ((net V ls).V : Int) = V := by simp only [net]; omega

theorem GOk.end_ {V : Int} {ls : List S42} (h : GOk V ls) {i : Int} (h0 : 0 ≤ i) (h1 : i < (ls.length : Int)) : (0 ≤ lA ls i ∧ lA ls i < V) ∧ (0 ≤ lB ls i ∧ lB ls i < V) ∧ lA ls i ≠ lB ls i := by
  have := h.ends.h i h0 h1
  have e := net_V (V := V) (ls := ls) (by have := h.v2; omega)
  rw [e] at this
  exact this

theorem rd_map_cap (ls : List S42) {i : Int} (h0 : 0 ≤ i) (h1 : i < (ls.length : Int)) : rd (ls.map (·.f2)) i = lC ls i := by
  unfold rd lC rd_T42
  have hl : i.toNat < ls.length := by omega
  simp only [List.getD_eq_getElem?_getD, List.getElem?_map, List.getElem?_eq_getElem hl]
  rfl

theorem caps_loop (V : Int) (ls : List S42) (hx : ls.length ≤ 17592186044416) (d : Nat) : ∀ (i : Nat), i ≤ ls.length → ls.length - i = d →
    Ev (fun k => graph_Caps.l0 k ((ls.take i).map (·.f2)) ls (ls.length : Int) (i : Int)) (ls.map (·.f2)) := by
  induction d with
  | zero =>
    intro i hi hd
    obtain rfl : i = ls.length := by omega
    refine Ev.step (fun k => by rw [graph_Caps.l0]) ?_
    refine Ev.ite_neg (by omega) ?_
    rw [List.take_length]
    exact Ev.now _
  | succ d ih =>
    intro i hi hd
    refine Ev.step (fun k => by rw [graph_Caps.l0]) ?_
    refine Ev.ite_pos (by omega) ?_
    refine Ev.ite_pos (by omega) ?_
    refine Ev.ite_pos (by omega) ?_
    refine Ev.ite_pos (by simp; omega) ?_
    have e3 : wrap64 ((i : Int) + 1) = ((i + 1 : Nat) : Int) := wrap_succ (by omega)
    have e4 : (ls.take i).map (·.f2) ++ [(rd_T42 ls (i : Int)).f2] = (ls.take (i + 1)).map (·.f2) := by
      have hl : i < ls.length := by omega
      rw [List.take_succ_eq_append_getElem hl, List.map_append]
      simp only [rd_T42, Int.toNat_natCast, List.getD_eq_getElem?_getD, List.getElem?_eq_getElem hl]
      rfl
    exact Ev.congr (fun k => by rw [e3, e4]) (ih (i + 1) (by omega) (by omega))

theorem graph_Caps_ev (V : Int) (ls : List S42) (hx : ls.length ≤ 17592186044416) : Ev (fun k => graph_Caps.f k V ls) (ls.map (·.f2)) :=
  caps_loop V ls hx ls.length 0 (by omega) (by omega)

theorem graph_Has_eq (V : Int) (ls : List S42) (v : Int) : graph_Has.f V ls v = some (decide (0 ≤ v ∧ v < V)) := by
  unfold graph_Has.f
  by_cases h : v ≥ 0
  · rw [if_pos h]; congr 1; simp; omega
  · rw [if_neg h]; congr 1; simp; omega

theorem caps_sum (ls : List S42) : SumOk (ls.map (·.f2)) ↔ (∀ i : Int, 0 ≤ i → i < (ls.length : Int) → 0 ≤ lC ls i) ∧ S ls.length (lC ls) ≤ 4611686018427387904 := by
  have e : S (ls.map (·.f2)).length (rd (ls.map (·.f2))) = S ls.length (lC ls) := by
    rw [List.length_map]
    exact S_congr (fun i a b => rd_map_cap ls a b)
  unfold SumOk
  rw [e, List.length_map]
  constructor
  · rintro ⟨h1, h2⟩
    exact ⟨fun i a b => by rw [← rd_map_cap ls a b]; exact h1 i a b, h2⟩
  · rintro ⟨h1, h2⟩
    exact ⟨fun i a b => by rw [rd_map_cap ls a b]; exact h1 i a b, h2⟩

/-- link i is fine -/
def LinkOk (V : Int) (ls : List S42) (i : Int) : Prop := (0 ≤ lA ls i ∧ lA ls i < V) ∧ (0 ≤ lB ls i ∧ lB ls i < V) ∧ lA ls i ≠ lB ls i

theorem gok_iff (V : Int) (ls : List S42) : GOk V ls ↔ 2 ≤ V ∧ V ≤ 8 ∧ ls.length ≤ 16 ∧ (∀ i : Int, 0 ≤ i → i < (ls.length : Int) → LinkOk V ls i) ∧ (∀ i : Int, 0 ≤ i → i < (ls.length : Int) → 0 ≤ lC ls i) ∧ S ls.length (lC ls) ≤ 4611686018427387904 := by
  constructor
  · intro h
    exact ⟨h.v2, h.v8, h.m16, fun i a b => h.end_ a b, h.cap, h.sum⟩
  · rintro ⟨h1, h2, h3, h4, h5, h6⟩
    refine ⟨h1, h2, h3, ⟨fun i a b => ?_⟩, h5, h6⟩
    rw [net_V (by omega)]
    exact h4 i a b

theorem may_loop (V : Int) (ls : List S42) (hv : 2 ≤ V ∧ V ≤ 8) (hm : ls.length ≤ 16) (d : Nat) : ∀ (i : Nat), i ≤ ls.length → ls.length - i = d → (∀ j : Int, 0 ≤ j → j < (i : Int) → LinkOk V ls j) →
    Ev (fun k => graph_May.l0 k ls (ls.length : Int) (i : Int) V ls) (decide (GOk V ls)) := by
  induction d with
  | zero =>
    intro i hi hd hp
    obtain rfl : i = ls.length := by omega
    refine Ev.step (fun k => by rw [graph_May.l0]) ?_
    refine Ev.ite_neg (by omega) ?_
    refine Ev.bind (graph_Caps_ev V ls (by omega)) ?_
    refine Ev.bind (rate_Sum_ev _ (by rw [List.length_map]; omega)) ?_
    have : (if SumOk (ls.map (·.f2)) then (S (ls.map (·.f2)).length (rd (ls.map (·.f2))), true) else ((0 : Int), false)).2 = decide (GOk V ls) := by
      by_cases hs : SumOk (ls.map (·.f2))
      · rw [if_pos hs, decide_eq_true]
        rw [gok_iff]
        have := (caps_sum ls).1 hs
        exact ⟨hv.1, hv.2, hm, hp, this.1, this.2⟩
      · rw [if_neg hs, decide_eq_false]
        rw [gok_iff]
        rintro ⟨_, _, _, _, h5, h6⟩
        exact hs ((caps_sum ls).2 ⟨h5, h6⟩)
    rw [this]
    exact Ev.now _
  | succ d ih =>
    intro i hi hd hp
    have no : ¬ LinkOk V ls i → ¬ GOk V ls := fun h g => h (((gok_iff V ls).1 g).2.2.2.1 i (by omega) (by omega))
    refine Ev.step (fun k => by rw [graph_May.l0]) ?_
    refine Ev.ite_pos (by omega) ?_
    refine Ev.ite_pos (by omega) ?_
    refine Ev.ite_pos (by omega) ?_
    refine Ev.call (graph_Has_eq _ _ _) ?_
    by_cases ha : 0 ≤ lA ls i ∧ lA ls i < V
    · refine Ev.ite_pos (decide_eq_true ha) ?_
      refine Ev.call (graph_Has_eq _ _ _) ?_
      by_cases hb : 0 ≤ lB ls i ∧ lB ls i < V
      · refine Ev.ite_pos (decide_eq_true hb) ?_
        by_cases he : lA ls i = lB ls i
        · refine Ev.ite_pos he ?_
          rw [decide_eq_false (no (fun h => h.2.2 he))]
          exact Ev.now _
        · refine Ev.ite_neg he ?_
          have e3 : wrap64 ((i : Int) + 1) = ((i + 1 : Nat) : Int) := wrap_succ (by omega)
          refine Ev.congr (fun k => by rw [e3]) (ih (i + 1) (by omega) (by omega) ?_)
          intro j a b
          by_cases e : j = i
          · subst e; exact ⟨ha, hb, he⟩
          · exact hp j a (by omega)
      · refine Ev.ite_neg (by simp only [decide_eq_true_eq]; exact hb) ?_
        rw [decide_eq_false (no (fun h => hb h.2.1))]
        exact Ev.now _
    · refine Ev.ite_neg (by simp only [decide_eq_true_eq]; exact ha) ?_
      rw [decide_eq_false (no (fun h => ha h.1))]
      exact Ev.now _

theorem graph_May_ev (V : Int) (ls : List S42) : Ev (fun k => graph_May.f k V ls) (decide (GOk V ls)) := by
  have no : ¬ (2 ≤ V ∧ V ≤ 8 ∧ ls.length ≤ 16) → Ev (fun k => graph_May.j0 k true V ls) (decide (GOk V ls)) := by
    intro h
    rw [decide_eq_false (fun g => h ⟨g.v2, g.v8, g.m16⟩)]
    refine Ev.step (fun k => by rw [graph_May.j0]) ?_
    exact Ev.ite_pos rfl (Ev.now _)
  unfold graph_May.f
  by_cases h1 : V < 2
  · exact Ev.ite_pos h1 (no (by omega))
  · refine Ev.ite_neg h1 ?_
    by_cases h2 : V > 8
    · exact Ev.ite_pos h2 (no (by omega))
    · refine Ev.ite_neg h2 ?_
      by_cases h3 : (ls.length : Int) > 16
      · rw [decide_eq_true h3]; exact no (by omega)
      · rw [decide_eq_false h3]
        refine Ev.step (fun k => by rw [graph_May.j0]) ?_
        refine Ev.ite_neg (by simp) ?_
        exact may_loop V ls (by omega) (by omega) ls.length 0 (by omega) (by omega) (fun j a b => by omega)

structure CapsOk (V : Int) (ls : List S42) (caps : List Int) : Prop where
  g : GOk V ls
  len : caps.length = ls.length
  le : ∀ i : Int, 0 ≤ i → i < (caps.length : Int) → 0 ≤ rd caps i ∧ rd caps i ≤ lC ls i

structure Win (caps f : List Int) : Prop where
  len : f.length = caps.length
  le : ∀ i : Int, 0 ≤ i → i < (f.length : Int) → 0 ≤ rd f i ∧ rd f i ≤ rd caps i

theorem takes_loop (V : Int) (ls : List S42) (caps : List Int) (hg : GOk V ls) (hl : caps.length = ls.length) (d : Nat) : ∀ (i : Nat), i ≤ caps.length → caps.length - i = d → (∀ j : Int, 0 ≤ j → j < (i : Int) → 0 ≤ rd caps j ∧ rd caps j ≤ lC ls j) →
    Ev (fun k => graph_Takes.l0 k caps (caps.length : Int) (i : Int) V ls) (decide (CapsOk V ls caps)) := by
  induction d with
  | zero =>
    intro i hi hd hp
    obtain rfl : i = caps.length := by omega
    refine Ev.step (fun k => by rw [graph_Takes.l0]) ?_
    refine Ev.ite_neg (by omega) ?_
    rw [decide_eq_true (⟨hg, hl, hp⟩ : CapsOk V ls caps)]
    exact Ev.now _
  | succ d ih =>
    intro i hi hd hp
    have hm := hg.m16
    refine Ev.step (fun k => by rw [graph_Takes.l0]) ?_
    refine Ev.ite_pos (by omega) ?_
    refine Ev.ite_pos (by omega) ?_
    refine Ev.ite_pos (by omega) ?_
    by_cases h1 : rd caps i < 0
    · refine Ev.ite_pos h1 ?_
      rw [decide_eq_false (fun h : CapsOk V ls caps => by have := h.le i (by omega) (by omega); omega)]
      exact Ev.now _
    · refine Ev.ite_neg h1 ?_
      refine Ev.ite_pos (by omega) ?_
      by_cases h2 : rd caps i > lC ls i
      · refine Ev.ite_pos h2 ?_
        rw [decide_eq_false (fun h : CapsOk V ls caps => by have := h.le i (by omega) (by omega); omega)]
        exact Ev.now _
      · refine Ev.ite_neg h2 ?_
        have X := ih (i + 1) (by omega) (by omega) (fun j a b => by
          by_cases e : j = i
          · subst e; omega
          · exact hp j a (by omega))
        have e3 : wrap64 ((i : Int) + 1) = ((i + 1 : Nat) : Int) := wrap_succ (by omega)
        exact Ev.congr (fun k => by rw [e3]) X

theorem graph_Takes_ev (V : Int) (ls : List S42) (caps : List Int) : Ev (fun k => graph_Takes.f k V ls caps) (decide (CapsOk V ls caps)) := by
  have no : ¬ CapsOk V ls caps → Ev (fun k => graph_Takes.j0 k caps true V ls) (decide (CapsOk V ls caps)) := by
    intro h
    rw [decide_eq_false h]
    refine Ev.step (fun k => by rw [graph_Takes.j0]) ?_
    exact Ev.ite_pos rfl (Ev.now _)
  unfold graph_Takes.f
  refine Ev.bind (graph_May_ev V ls) ?_
  by_cases h : GOk V ls
  · refine Ev.ite_pos (decide_eq_true h) ?_
    by_cases hl : caps.length = ls.length
    · have e : ((caps.length : Int) != (ls.length : Int)) = false := by simp [hl]
      rw [e]
      refine Ev.step (fun k => by rw [graph_Takes.j0]) ?_
      refine Ev.ite_neg (by simp) ?_
      exact takes_loop V ls caps h hl caps.length 0 (by omega) (by omega) (fun j a b => by omega)
    · have e : ((caps.length : Int) != (ls.length : Int)) = true := by simp; omega
      rw [e]
      exact no (fun g => hl g.len)
  · refine Ev.ite_neg (by simp only [decide_eq_true_eq]; exact h) ?_
    exact no (fun g => h g.g)

theorem lies_loop (caps f : List Int) (hl : f.length = caps.length) (hx : f.length ≤ 17592186044416) (d : Nat) : ∀ (i : Nat), i ≤ f.length → f.length - i = d → (∀ j : Int, 0 ≤ j → j < (i : Int) → 0 ≤ rd f j ∧ rd f j ≤ rd caps j) →
    Ev (fun k => stream_Lies.l0 k caps f (f.length : Int) (i : Int)) (decide (Win caps f)) := by
  induction d with
  | zero =>
    intro i hi hd hp
    obtain rfl : i = f.length := by omega
    refine Ev.step (fun k => by rw [stream_Lies.l0]) ?_
    refine Ev.ite_neg (by omega) ?_
    rw [decide_eq_true (⟨hl, hp⟩ : Win caps f)]
    exact Ev.now _
  | succ d ih =>
    intro i hi hd hp
    refine Ev.step (fun k => by rw [stream_Lies.l0]) ?_
    refine Ev.ite_pos (by omega) ?_
    refine Ev.ite_pos (by omega) ?_
    refine Ev.ite_pos (by omega) ?_
    by_cases h1 : rd f i < 0
    · refine Ev.ite_pos h1 ?_
      rw [decide_eq_false (fun h : Win caps f => by have := h.le i (by omega) (by omega); omega)]
      exact Ev.now _
    · refine Ev.ite_neg h1 ?_
      refine Ev.ite_pos (by omega) ?_
      by_cases h2 : rd f i > rd caps i
      · refine Ev.ite_pos h2 ?_
        rw [decide_eq_false (fun h : Win caps f => by have := h.le i (by omega) (by omega); omega)]
        exact Ev.now _
      · refine Ev.ite_neg h2 ?_
        have X := ih (i + 1) (by omega) (by omega) (fun j a b => by
          by_cases e : j = i
          · subst e; omega
          · exact hp j a (by omega))
        have e3 : wrap64 ((i : Int) + 1) = ((i + 1 : Nat) : Int) := wrap_succ (by omega)
        exact Ev.congr (fun k => by rw [e3]) X

theorem stream_Lies_ev (V : Int) (ls : List S42) (caps f : List Int) : Ev (fun k => stream_Lies.f k V ls caps f) (decide (CapsOk V ls caps ∧ Win caps f)) := by
  have no : ¬ (CapsOk V ls caps ∧ Win caps f) → Ev (fun k => stream_Lies.j0 k caps f true) (decide (CapsOk V ls caps ∧ Win caps f)) := by
    intro h
    rw [decide_eq_false h]
    refine Ev.step (fun k => by rw [stream_Lies.j0]) ?_
    exact Ev.ite_pos rfl (Ev.now _)
  unfold stream_Lies.f
  refine Ev.bind (graph_Takes_ev V ls caps) ?_
  by_cases h : CapsOk V ls caps
  · refine Ev.ite_pos (decide_eq_true h) ?_
    by_cases hl : f.length = caps.length
    · have e : ((f.length : Int) != (caps.length : Int)) = false := by simp [hl]
      rw [e]
      refine Ev.step (fun k => by rw [stream_Lies.j0]) ?_
      refine Ev.ite_neg (by simp) ?_
      have e2 : (CapsOk V ls caps ∧ Win caps f) = Win caps f := by simp [h]
      simp only [e2]
      exact lies_loop caps f hl (by have := h.g.m16; have := h.len; omega) f.length 0 (by omega) (by omega) (fun j a b => by omega)
    · have e : ((f.length : Int) != (caps.length : Int)) = true := by simp; omega
      rw [e]
      exact no (fun g => hl g.2.len)
  · refine Ev.ite_neg (by simp only [decide_eq_true_eq]; exact h) ?_
    exact no (fun g => h g.1)

/-- a list within a graph's own caps -/
structure Fine (V : Int) (ls : List S42) (f : List Int) : Prop where
  g : GOk V ls
  len : f.length = ls.length
  le : ∀ i : Int, 0 ≤ i → i < (ls.length : Int) → 0 ≤ rd f i ∧ rd f i ≤ lC ls i

theorem Fine.of {V : Int} {ls : List S42} {caps f : List Int} (h : CapsOk V ls caps) (w : Win caps f) : Fine V ls f :=
  ⟨h.g, by rw [w.len, h.len], fun i a b => by
    have h1 := w.le i a (by rw [w.len, h.len]; exact b)
    have h2 := h.le i a (by rw [h.len]; exact b)
    omega⟩

theorem CopyGraph_eq (V : Int) (ls : List S42) (hx : ls.length < 5864062014805) : tollbarlaw0_CopyGraph.f V ls = some (V, ls) := by
  unfold tollbarlaw0_CopyGraph.f
  simp only [Option.bind_some]
  rw [if_pos (by simpa using hx)]
  rfl

theorem fine_iff (V : Int) (ls : List S42) (f : List Int) : (CapsOk V ls (ls.map (·.f2)) ∧ Win (ls.map (·.f2)) f) ↔ Fine V ls f := by
  constructor
  · rintro ⟨h, w⟩
    exact Fine.of h w
  · intro h
    have hc : CapsOk V ls (ls.map (·.f2)) := ⟨h.g, by simp, fun i a b => by
      rw [List.length_map] at b
      rw [rd_map_cap ls a b]
      exact ⟨h.g.cap i a b, Int.le_refl _⟩⟩
    refine ⟨hc, by rw [List.length_map]; exact h.len, fun i a b => ?_⟩
    have b2 : i < (ls.length : Int) := by rw [← h.len]; exact b
    rw [rd_map_cap ls a b2]
    exact h.le i a b2

theorem mem_rd {xs : List Int} {x : Int} (h : x ∈ xs) : ∃ i : Int, 0 ≤ i ∧ i < (xs.length : Int) ∧ rd xs i = x := by
  obtain ⟨i, hi, e⟩ := mem_gd 0 h
  exact ⟨(i : Int), by omega, by omega, by unfold rd; rw [Int.toNat_natCast]; exact e⟩

theorem index_loop (xs : List Int) (y : Int) (hx : xs.length ≤ 17592186044416) (d : Nat) : ∀ (i : Nat), i ≤ xs.length → xs.length - i = d → (∀ j : Int, 0 ≤ j → j < (i : Int) → rd xs j ≠ y) →
    ∃ t : Int, Ev (fun k => slices_Index_int_int.l0 k xs y (xs.length : Int) (i : Int)) t ∧ ((t = -1 ∧ y ∉ xs) ∨ (0 ≤ t ∧ t < (xs.length : Int) ∧ rd xs t = y)) := by
  induction d with
  | zero =>
    intro i hi hd hp
    obtain rfl : i = xs.length := by omega
    refine ⟨-1, ?_, .inl ⟨rfl, fun hy => ?_⟩⟩
    · refine Ev.step (fun k => by rw [slices_Index_int_int.l0]) ?_
      refine Ev.ite_neg (by omega) (Ev.now _)
    · obtain ⟨j, j0, j1, e⟩ := mem_rd hy
      exact hp j j0 j1 e
  | succ d ih =>
    intro i hi hd hp
    by_cases e : y = rd xs (i : Int)
    · refine ⟨(i : Int), ?_, .inr ⟨by omega, by omega, e.symm⟩⟩
      refine Ev.step (fun k => by rw [slices_Index_int_int.l0]) ?_
      exact Ev.ite_pos (by omega) (Ev.ite_pos (by omega) (Ev.ite_pos (by omega) (Ev.ite_pos e (Ev.now _))))
    · obtain ⟨t, X, h⟩ := ih (i + 1) (by omega) (by omega) (fun j a b => by
        by_cases ej : j = (i : Int)
        · rw [ej]; exact fun g => e g.symm
        · exact hp j a (by omega))
      refine ⟨t, ?_, h⟩
      refine Ev.step (fun k => by rw [slices_Index_int_int.l0]) ?_
      refine Ev.ite_pos (by omega) (Ev.ite_pos (by omega) (Ev.ite_pos (by omega) (Ev.ite_neg e ?_)))
      exact Ev.congr (fun k => by rw [wrap_succ (by omega)]) X

theorem Index_ev (xs : List Int) (y : Int) (hx : xs.length ≤ 17592186044416) : ∃ t : Int, Ev (fun k => slices_Index_int_int.f k xs y) t ∧ ((t = -1 ∧ y ∉ xs) ∨ (0 ≤ t ∧ t < (xs.length : Int) ∧ rd xs t = y)) :=
  index_loop xs y hx xs.length 0 (by omega) (by omega) (fun j a b => by omega)

def swl (x : S42) : S42 := ⟨x.f1, x.f0, x.f2⟩

theorem gd_some {xs : List S42} {j : Nat} {v : S42} (h : xs[j]? = some v) : xs.getD j z42 = v := by
  rw [List.getD_eq_getElem?_getD, h]; rfl

theorem swl_gd (ls : List S42) (j : Nat) : (ls.map swl).getD j z42 = swl (ls.getD j z42) := by
  rw [List.getD_eq_getElem?_getD, List.getElem?_map, List.getD_eq_getElem?_getD]
  cases ls[j]? <;> rfl

theorem lA_swl (ls : List S42) : lA (ls.map swl) = lB ls := by
  funext i; unfold lA lB rd_T42; rw [swl_gd]; rfl

theorem lB_swl (ls : List S42) : lB (ls.map swl) = lA ls := by
  funext i; unfold lA lB rd_T42; rw [swl_gd]; rfl

theorem lC_swl (ls : List S42) : lC (ls.map swl) = lC ls := by
  funext i; unfold lC rd_T42; rw [swl_gd]; rfl

theorem GOk.swl {V : Int} {ls : List S42} (h : GOk V ls) : GOk V (ls.map swl) := by
  refine (gok_iff V _).2 ⟨h.v2, h.v8, by rw [List.length_map]; exact h.m16, fun i a b => ?_, fun i a b => ?_, ?_⟩
  · rw [List.length_map] at b
    unfold LinkOk
    rw [lA_swl, lB_swl]
    have := h.end_ a b
    exact ⟨this.2.1, this.1, fun e => this.2.2 e.symm⟩
  · rw [List.length_map] at b
    rw [lC_swl]; exact h.cap i a b
  · rw [lC_swl, List.length_map]; exact h.sum

def mixed (ls : List S42) (i : Nat) : List S42 := (List.range ls.length).map (fun j => if j < i then swl (ls.getD j z42) else ls.getD j z42)

theorem mixed_len (ls : List S42) (i : Nat) : (mixed ls i).length = ls.length := by simp [mixed]

theorem mixed_gd {ls : List S42} {i j : Nat} (h : j < ls.length) : (mixed ls i).getD j z42 = if j < i then swl (ls.getD j z42) else ls.getD j z42 := by
  refine gd_some ?_
  unfold mixed
  rw [List.getElem?_map, List.getElem?_range h]
  rfl

theorem mixed_zero (ls : List S42) : mixed ls 0 = ls := by
  refine gd_ext z42 (mixed_len _ _) (fun j h => ?_)
  rw [mixed_len] at h
  rw [mixed_gd h, if_neg (by omega)]

theorem mixed_all (ls : List S42) : mixed ls ls.length = ls.map swl := by
  refine gd_ext z42 (by rw [mixed_len, List.length_map]) (fun j h => ?_)
  rw [mixed_len] at h
  rw [mixed_gd h, if_pos h, swl_gd]

theorem mixed_step {ls : List S42} {i : Nat} (hi : i < ls.length) (x y : S42) (hy : y = swl (ls.getD i z42)) : ((mixed ls i).set i x).set i y = mixed ls (i + 1) := by
  refine gd_ext z42 (by rw [List.length_set, List.length_set, mixed_len, mixed_len]) (fun j h => ?_)
  rw [List.length_set, List.length_set, mixed_len] at h
  rw [mixed_gd h]
  by_cases e : j = i
  · rw [e, gd_set_eq (by rw [List.length_set, mixed_len]; exact hi), if_pos (by omega), hy]
  · rw [gd_set_ne (fun g => e g.symm), gd_set_ne (fun g => e g.symm), mixed_gd h]
    by_cases g : j < i
    · rw [if_pos g, if_pos (by omega)]
    · rw [if_neg g, if_neg (by omega)]

theorem net_ok {V : Int} {ls : List S42} (h : GOk V ls) : (net V ls).ok := by
  refine ⟨fun i a b => ?_⟩
  have h1 := h.end_ a b
  have hv := net_V (V := V) (ls := ls) (by have := h.v2; omega)
  show (0 ≤ (net V ls).a i ∧ (net V ls).a i < ((net V ls).V : Int)) ∧ _
  rw [hv]
  exact h1

theorem on_loop {V : Int} {ls : List S42} {f : List Int} {X : List Bool} (hg : GOk V ls) (hf : f.length = ls.length) (hX : X.length = V.toNat) (v : Int) (d : Nat) :
    ∀ (i : Nat), i ≤ ls.length → ls.length - i = d → (∀ j : Int, 0 ≤ j → j < (i : Int) → ¬ (lA ls j = v ∧ rdOf false X (lB ls j) = true ∧ 0 < rd f j)) →
      ∃ t : Int, Ev (fun k => cycle_on.l0 k f X v ls (ls.length : Int) (i : Int)) t ∧ ((t = -1 ∧ ¬ live (net V ls) (rd f) (rdOf false X) v) ∨ ((0 ≤ t ∧ t < (ls.length : Int)) ∧ lA ls t = v ∧ rdOf false X (lB ls t) = true ∧ 0 < rd f t)) := by
  have hm := hg.m16
  have hv2 := hg.v2
  induction d with
  | zero =>
    intro i hi hd hp
    obtain rfl : i = ls.length := by omega
    refine ⟨-1, ?_, .inl ⟨rfl, ?_⟩⟩
    · refine Ev.step (fun k => by rw [cycle_on.l0]) ?_
      exact Ev.ite_neg (by omega) (Ev.now _)
    · rintro ⟨j, j0, j1, a, b, c⟩
      exact hp j j0 j1 ⟨a, b, c⟩
  | succ d ih =>
    intro i hi hd hp
    have he := hg.end_ (i := (i : Int)) (by omega) (by omega)
    by_cases c : lA ls (i : Int) = v ∧ rdOf false X (lB ls (i : Int)) = true ∧ 0 < rd f (i : Int)
    · refine ⟨(i : Int), ?_, .inr ⟨⟨by omega, by omega⟩, c⟩⟩
      refine Ev.step (fun k => by rw [cycle_on.l0]) ?_
      refine Ev.ite_pos (by omega) (Ev.ite_pos (by omega) (Ev.ite_pos (by omega) (Ev.ite_pos c.1 (Ev.ite_pos he.2.1.1 (Ev.ite_pos (by have := he.2.1.2; unfold lB at this; omega) (Ev.ite_pos c.2.1 (Ev.ite_pos (by omega) (Ev.ite_pos c.2.2 (Ev.now _)))))))))
    · obtain ⟨t, X1, h⟩ := ih (i + 1) (by omega) (by omega) (fun j a b => by
        by_cases ej : j = (i : Int)
        · rw [ej]; exact c
        · exact hp j a (by omega))
      refine ⟨t, ?_, h⟩
      have Y : Ev (fun k => cycle_on.l0 k f X v ls (ls.length : Int) (wrap64 ((i : Int) + 1))) t := Ev.congr (fun k => by rw [wrap_succ (by omega)]) X1
      refine Ev.step (fun k => by rw [cycle_on.l0]) ?_
      refine Ev.ite_pos (by omega) (Ev.ite_pos (by omega) (Ev.ite_pos (by omega) ?_))
      by_cases c1 : lA ls (i : Int) = v
      · refine Ev.ite_pos c1 (Ev.ite_pos he.2.1.1 (Ev.ite_pos (by have := he.2.1.2; unfold lB at this; omega) ?_))
        by_cases c2 : rdOf false X (lB ls (i : Int)) = true
        · refine Ev.ite_pos c2 (Ev.ite_pos (by omega) ?_)
          exact Ev.ite_neg (fun c3 => c ⟨c1, c2, c3⟩) Y
        · exact Ev.ite_neg c2 Y
      · exact Ev.ite_neg c1 Y

theorem on_ev {V : Int} {ls : List S42} {f : List Int} {X : List Bool} (hg : GOk V ls) (hf : f.length = ls.length) (hX : X.length = V.toNat) (v : Int) :
    ∃ t : Int, Ev (fun k => cycle_on.f k V ls f X v) t ∧ ((t = -1 ∧ ¬ live (net V ls) (rd f) (rdOf false X) v) ∨ ((0 ≤ t ∧ t < (ls.length : Int)) ∧ lA ls t = v ∧ rdOf false X (lB ls t) = true ∧ 0 < rd f t)) :=
  on_loop hg hf hX v ls.length 0 (by omega) (by omega) (fun j a b => by omega)

/-- half way through a round that began with X -/
structure Peel (N : Net) (f : Int → Int) (X Y : List Bool) (i : Int) : Prop where
  len : Y.length = N.V
  all : ∀ Z : Int → Bool, closed N f Z → ∀ v : Int, 0 ≤ v → v < (N.V : Int) → Z v = true → rdOf false Y v = true
  keep : closed N f (rdOf false X) → ∀ v : Int, 0 ≤ v → v < (N.V : Int) → rdOf false Y v = rdOf false X v
  less : cnt N.V (rdOf false Y) + 1 ≤ cnt N.V (rdOf false X) ∨ ((∀ v : Int, 0 ≤ v → v < (N.V : Int) → rdOf false Y v = rdOf false X v) ∧ ∀ v : Int, 0 ≤ v → v < i → rdOf false X v = true → live N f (rdOf false X) v)

theorem Peel.step {N : Net} (hN : N.ok) {f : Int → Int} {X Y : List Bool} {i : Int} (h : Peel N f X Y i) (i0 : 0 ≤ i) (i1 : i < (N.V : Int)) {b : Bool} (hb : rdOf false Y i = true → (b = true ↔ live N f (rdOf false Y) i)) (hb2 : rdOf false Y i = false → b = false) :
    Peel N f X (Y.set i.toNat b) (i + 1) := by
  have hl := h.len
  have hr : ∀ u : Int, 0 ≤ u → rdOf false (Y.set i.toNat b) u = if u = i then b else rdOf false Y u := fun u u0 => rdOf_set i0 (by omega) u0
  have hX : ∀ u : Int, 0 ≤ u → u < (N.V : Int) → rdOf false (Y.set i.toNat b) u = if u = i then (rdOf false Y i && b) else rdOf false Y u := by
    intro u u0 u1
    rw [hr u u0]
    by_cases e : u = i
    · rw [if_pos e, if_pos e]
      cases hy : rdOf false Y i with
      | true => rfl
      | false => rw [hb2 hy]; rfl
    · rw [if_neg e, if_neg e]
  have P := peel_step hN hX hb
  refine ⟨by rw [List.length_set]; exact hl, fun Z hZ v v0 v1 hz => P.all Z hZ (fun u u0 u1 hu => h.all Z hZ u u0 u1 hu) v v0 v1 hz, fun hc v v0 v1 => ?_, ?_⟩
  · have hk := h.keep hc
    have hc2 : closed N f (rdOf false Y) := hc.congr hN hk
    rw [peel_same hX (fun hy => (hb hy).2 (hc2 i i0 i1 hy)) v v0 v1]
    exact hk v v0 v1
  · rcases h.less with l | ⟨l1, l2⟩
    · left
      have hm := cnt_mono (V := N.V) (P := rdOf false (Y.set i.toNat b)) (Q := rdOf false Y) (fun u u0 u1 hu => P.sub u u0 u1 hu)
      omega
    · cases hy : rdOf false Y i with
      | false =>
        right
        have hs := peel_same hX (fun g => by rw [hy] at g; cases g)
        refine ⟨fun v v0 v1 => by rw [hs v v0 v1]; exact l1 v v0 v1, fun v v0 v1 hv => ?_⟩
        by_cases e : v = i
        · rw [e, ← l1 i i0 i1, hy] at hv; cases hv
        · exact l2 v v0 (by omega) hv
      | true =>
        cases hbb : b with
        | false =>
          left
          have hl2 := peel_less (N := N) hX i0 i1 hy hbb
          have e3 : cnt N.V (rdOf false Y) ≤ cnt N.V (rdOf false X) := cnt_mono (fun v v0 v1 hv => by rw [← l1 v v0 v1]; exact hv)
          rw [hbb] at hl2
          omega
        | true =>
          right
          have hs := peel_same hX (fun _ => hbb)
          rw [hbb] at hs
          refine ⟨fun v v0 v1 => by rw [hs v v0 v1]; exact l1 v v0 v1, fun v v0 v1 hv => ?_⟩
          by_cases e : v = i
          · rw [e]
            exact ((hb hy).1 hbb).mono (fun u u0 u1 hu => by rw [← l1 u u0 u1]; exact hu) hN
          · exact l2 v v0 (by omega) hv

/-- all is well at the end of the rounds -/
structure Core (N : Net) (f : Int → Int) (X : List Bool) (n : Nat) : Prop where
  len : X.length = N.V
  all : ∀ Z : Int → Bool, closed N f Z → ∀ v : Int, 0 ≤ v → v < (N.V : Int) → Z v = true → rdOf false X v = true
  end_ : closed N f (rdOf false X) ∨ cnt N.V (rdOf false X) + n ≤ N.V

theorem Core.peel {N : Net} (hN : N.ok) {f : Int → Int} {X Y : List Bool} {n : Nat} (h : Core N f X n) (g : Peel N f X Y (N.V : Int)) : Core N f Y (n + 1) := by
  refine ⟨g.len, g.all, ?_⟩
  rcases h.end_ with e | e
  · exact .inl (e.congr hN (g.keep e))
  · rcases g.less with l | ⟨l1, l2⟩
    · right; omega
    · left
      have hc : closed N f (rdOf false X) := fun v v0 v1 hv => l2 v v0 v1 hv
      exact hc.congr hN l1

theorem Core.start {N : Net} {f : Int → Int} : Core N f (List.replicate N.V true) 0 :=
  ⟨by simp, fun Z _ v v0 v1 _ => rdOf_rep v0 v1, .inr (by have := cnt_le N.V (rdOf false (List.replicate N.V true)); omega)⟩

theorem Core.closed {N : Net} {f : Int → Int} {X : List Bool} (h : Core N f X N.V) : closed N f (rdOf false X) := by
  rcases h.end_ with e | e
  · exact e
  · intro v v0 v1 hv
    have := cnt_lt (V := N.V) (P := fun _ => false) (Q := rdOf false X) (fun _ _ _ g => by cases g) v0 v1 rfl hv
    have := cnt_nonneg N.V (fun _ => false)
    omega

section
variable {V : Int} {ls : List S42} {f : List Int}

theorem core_pick (hg : GOk V ls) (hf : f.length = ls.length) {j : Int} {X : List Bool} (d : Nat) :
    ∀ (i : Nat) (Y : List Bool), (i : Int) ≤ V → V.toNat - i = d → Peel (net V ls) (rd f) X Y (i : Int) →
      ∃ Z : List Bool, Peel (net V ls) (rd f) X Z V ∧ ∀ r : List Bool, Ev (fun k => cycle_core.l0 k f Z V (wrap64 (j + 1)) V ls) r → Ev (fun k => cycle_core.l1 k f Y V j V (i : Int) V ls) r := by
  have hv2 := hg.v2
  have hv8 := hg.v8
  have hN := net_ok hg
  have hNV : ((net V ls).V : Int) = V := net_V (by omega)
  induction d with
  | zero =>
    intro i Y hi hd hY
    have ei : (i : Int) = V := by omega
    rw [ei] at hY
    refine ⟨Y, hY, fun r next => ?_⟩
    refine Ev.step (fun k => by rw [cycle_core.l1]) ?_
    exact Ev.ite_neg (by omega) next
  | succ d ih =>
    intro i Y hi hd hY
    have hl := hY.len
    have hl2 : (Y.length : Int) = V := by rw [hl]; exact hNV
    have cast : ((i : Int) + 1) = ((i + 1 : Nat) : Int) := by omega
    cases hy : rdOf false Y (i : Int) with
    | true =>
      obtain ⟨t, T, h⟩ := on_ev (V := V) (ls := ls) (f := f) (X := Y) hg hf (by omega) (i : Int)
      have hb : decide (t ≥ 0) = true ↔ live (net V ls) (rd f) (rdOf false Y) (i : Int) := by
        rw [decide_eq_true_eq]
        rcases h with ⟨h1, h2⟩ | ⟨h1, h2, h3, h4⟩
        · exact ⟨fun g => by omega, fun g => absurd g h2⟩
        · exact ⟨fun _ => ⟨t, h1.1, h1.2, h2, h3, h4⟩, fun _ => h1.1⟩
      have P := hY.step hN (by omega) (by omega) (b := decide (t ≥ 0)) (fun _ => hb) (fun g => by rw [hy] at g; cases g)
      rw [cast] at P
      obtain ⟨Z, hZ, hr⟩ := ih (i + 1) _ (by omega) (by omega) P
      refine ⟨Z, hZ, fun r next => ?_⟩
      refine Ev.step (fun k => by rw [cycle_core.l1]) ?_
      refine Ev.ite_pos (by omega) (Ev.ite_pos (by omega) (Ev.ite_pos (by omega) (Ev.ite_pos hy (Ev.bind T ?_))))
      exact Ev.congr (fun k => by rw [wrap_succ (by omega)]) (hr r next)
    | false =>
      have P := hY.step hN (by omega) (by omega) (b := false) (fun g => by rw [hy] at g; cases g) (fun _ => rfl)
      rw [cast] at P
      obtain ⟨Z, hZ, hr⟩ := ih (i + 1) _ (by omega) (by omega) P
      refine ⟨Z, hZ, fun r next => ?_⟩
      refine Ev.step (fun k => by rw [cycle_core.l1]) ?_
      refine Ev.ite_pos (by omega) (Ev.ite_pos (by omega) (Ev.ite_pos (by omega) (Ev.ite_neg (by rw [hy]; decide) ?_)))
      exact Ev.congr (fun k => by rw [wrap_succ (by omega)]) (hr r next)

theorem core_rounds (hg : GOk V ls) (hf : f.length = ls.length) (d : Nat) :
    ∀ (j : Nat) (X : List Bool), (j : Int) ≤ V → V.toNat - j = d → Core (net V ls) (rd f) X j → ∃ r : List Bool, Ev (fun k => cycle_core.l0 k f X V (j : Int) V ls) r ∧ Core (net V ls) (rd f) r V.toNat := by
  have hv2 := hg.v2
  have hv8 := hg.v8
  have hN := net_ok hg
  have hNV : ((net V ls).V : Int) = V := net_V (by omega)
  induction d with
  | zero =>
    intro j X hj hd hX
    obtain rfl : j = V.toNat := by omega
    refine ⟨X, ?_, hX⟩
    refine Ev.step (fun k => by rw [cycle_core.l0]) ?_
    exact Ev.ite_neg (by omega) (Ev.now _)
  | succ d ih =>
    intro j X hj hd hX
    have hl := hX.len
    have hl2 : (X.length : Int) = V := by rw [hl]; exact hNV
    have start : Peel (net V ls) (rd f) X X 0 := ⟨hl, hX.all, fun _ _ _ _ => rfl, .inr ⟨fun _ _ _ => rfl, fun v a b => by omega⟩⟩
    obtain ⟨Y, hY, eY⟩ := core_pick hg hf (j := (j : Int)) V.toNat 0 X (by omega) (by omega) start
    obtain ⟨r, R, C⟩ := ih (j + 1) Y (by omega) (by omega) (by
      have := hX.peel hN (Y := Y) (by rw [hNV]; exact hY)
      exact this)
    refine ⟨r, ?_, C⟩
    refine Ev.step (fun k => by rw [cycle_core.l0]) ?_
    refine Ev.ite_pos (by omega) ?_
    rw [hl2]
    refine eY r ?_
    exact Ev.congr (fun k => by rw [wrap_succ (by omega)]) R

theorem core_ev (hg : GOk V ls) (hf : f.length = ls.length) : ∃ X : List Bool, Ev (fun k => cycle_core.f k V ls f) X ∧ X.length = V.toNat ∧ closed (net V ls) (rd f) (rdOf false X) ∧
    ∀ Z : Int → Bool, closed (net V ls) (rd f) Z → ∀ v : Int, 0 ≤ v → v < V → Z v = true → rdOf false X v = true := by
  have hv2 := hg.v2
  have hv8 := hg.v8
  have hNV : ((net V ls).V : Int) = V := net_V (by omega)
  obtain ⟨X, E, C⟩ := core_rounds hg hf V.toNat 0 (List.replicate V.toNat true) (by omega) (by omega) Core.start
  refine ⟨X, ?_, C.len, C.closed, fun Z hZ v v0 v1 hz => C.all Z hZ v v0 (by rw [hNV]; exact v1) hz⟩
  unfold cycle_core.f
  refine Ev.call (a := List.replicate V.toNat true) ?_ E
  unfold slices_Repeat_bool_bool.f
  rw [if_pos ⟨rfl, by omega, by omega⟩]
  rfl

theorem indexB_loop (xs : List Bool) (hx : xs.length ≤ 17592186044416) (d : Nat) : ∀ (i : Nat), i ≤ xs.length → xs.length - i = d → (∀ j : Int, 0 ≤ j → j < (i : Int) → rdOf false xs j = false) →
    ∃ t : Int, Ev (fun k => slices_Index_bool_bool.l0 k xs true (xs.length : Int) (i : Int)) t ∧ ((t = -1 ∧ ∀ j : Int, 0 ≤ j → j < (xs.length : Int) → rdOf false xs j = false) ∨ (0 ≤ t ∧ t < (xs.length : Int) ∧ rdOf false xs t = true)) := by
  induction d with
  | zero =>
    intro i hi hd hp
    obtain rfl : i = xs.length := by omega
    refine ⟨-1, ?_, .inl ⟨rfl, hp⟩⟩
    refine Ev.step (fun k => by rw [slices_Index_bool_bool.l0]) ?_
    exact Ev.ite_neg (by omega) (Ev.now _)
  | succ d ih =>
    intro i hi hd hp
    cases e : rdOf false xs (i : Int) with
    | true =>
      refine ⟨(i : Int), ?_, .inr ⟨by omega, by omega, e⟩⟩
      refine Ev.step (fun k => by rw [slices_Index_bool_bool.l0]) ?_
      exact Ev.ite_pos (by omega) (Ev.ite_pos (by omega) (Ev.ite_pos (by omega) (Ev.ite_pos (by rw [e]; rfl) (Ev.now _))))
    | false =>
      obtain ⟨t, X, h⟩ := ih (i + 1) (by omega) (by omega) (fun j a b => by
        by_cases ej : j = (i : Int)
        · rw [ej]; exact e
        · exact hp j a (by omega))
      refine ⟨t, ?_, h⟩
      refine Ev.step (fun k => by rw [slices_Index_bool_bool.l0]) ?_
      refine Ev.ite_pos (by omega) (Ev.ite_pos (by omega) (Ev.ite_pos (by omega) (Ev.ite_neg (by rw [e]; decide) ?_)))
      exact Ev.congr (fun k => by rw [wrap_succ (by omega)]) X

theorem CloneK_eq {xs : List Int} (h : xs.length < 17592186044416) : slices_Clone_int_int.f xs = some xs := by
  unfold slices_Clone_int_int.f
  simp only [Option.bind_some]
  rw [if_pos (by simpa using h)]
  rfl

theorem find_walk (hg : GOk V ls) (hf : f.length = ls.length) {X : List Bool} (hX : X.length = V.toNat) (hc : closed (net V ls) (rd f) (rdOf false X)) {s : Int} (d : Nat) :
    ∀ (way : List Int) (last : Int), V.toNat - way.length = d → way.length < V.toNat + 1 → Trail (net V ls) s way last → (0 ≤ last ∧ last < V) → rdOf false X last = true → (∀ l ∈ way, 0 < rd f l) →
      (way.map (lA ls) ++ [last]).Nodup →
      ∃ p : List Int, Ev (fun k => cycle_find.l0 k f X way (way.map (lA ls) ++ [last]) V ls) p ∧ Cyc (net V ls) (rd f) p := by
  have hv2 := hg.v2
  have hv8 := hg.v8
  have hm := hg.m16
  have hN := net_ok hg
  have hNV : ((net V ls).V : Int) = V := net_V (by omega)
  have range : ∀ (way : List Int) (last : Int), Trail (net V ls) s way last → (0 ≤ last ∧ last < V) → ∀ x ∈ way.map (lA ls) ++ [last], 0 ≤ x ∧ x < (V.toNat : Int) := by
    intro way last ht hl x hx
    rcases List.mem_append.1 hx with hx | hx
    · obtain ⟨l, hl2, e⟩ := List.mem_map.1 hx
      have h1 := ht.mem l hl2
      have h2 := hg.end_ h1.1 h1.2
      rw [← e]; omega
    · rw [List.mem_singleton.1 hx]; omega
  induction d with
  | zero =>
    intro way last hd hw ht hl hx hfl hn
    exfalso
    have := nodup_le hn (range way last ht hl)
    rw [List.length_append, List.length_map, List.length_singleton] at this
    omega
  | succ d ih =>
    intro way last hd hw ht hl hx hfl hn
    obtain ⟨t, T, h⟩ := on_ev (V := V) (ls := ls) (f := f) (X := X) hg hf hX last
    have hb : (way.map (lA ls) ++ [last]).length = way.length + 1 := by rw [List.length_append, List.length_map, List.length_singleton]
    have hlast : rd (way.map (lA ls) ++ [last]) (((way.map (lA ls) ++ [last]).length : Int) - 1) = last := by
      have e : (((way.map (lA ls) ++ [last]).length : Int) - 1) = (((way.map (lA ls)).length : Nat) : Int) := by rw [hb, List.length_map]; omega
      rw [e]; exact rd_new
    rcases h with ⟨_, h2⟩ | ⟨h1, h2, h3, h4⟩
    · exact absurd (hc last hl.1 (by rw [hNV]; exact hl.2) hx) h2
    · have he := hg.end_ h1.1 h1.2
      have ht2 : Trail (net V ls) s (way ++ [t]) (lB ls t) := ht.app ⟨h1, h2, rfl⟩
      have hmap : (way ++ [t]).map (lA ls) = way.map (lA ls) ++ [last] := by rw [List.map_append, List.map_singleton, h2]
      have hfl2 : ∀ l ∈ way ++ [t], 0 < rd f l := by
        intro l hl2
        rcases List.mem_append.1 hl2 with hl2 | hl2
        · exact hfl l hl2
        · rw [List.mem_singleton.1 hl2]; exact h4
      obtain ⟨q, Q, hq⟩ := Index_ev (way.map (lA ls) ++ [last]) (lB ls t) (by omega)
      have hwl : (way ++ [t]).length = way.length + 1 := by rw [List.length_append, List.length_singleton]
      rcases hq with ⟨q1, q2⟩ | ⟨q1, q2, q3⟩
      · have hn2 : ((way ++ [t]).map (lA ls) ++ [lB ls t]).Nodup := by
          rw [hmap]
          rw [List.nodup_append]
          refine ⟨hn, by simp, fun a ha b hb2 e => ?_⟩
          rw [List.mem_singleton.1 hb2] at e
          rw [e] at ha
          exact q2 ha
        obtain ⟨p, P, C⟩ := ih (way ++ [t]) (lB ls t) (by omega) (by
          have := nodup_le hn2 (range _ _ ht2 he.2.1)
          rw [List.length_append, List.length_map, List.length_singleton] at this
          omega) ht2 he.2.1 h3 hfl2 hn2
        refine ⟨p, ?_, C⟩
        rw [hmap] at P
        refine Ev.step (fun k => by rw [cycle_find.l0]) ?_
        rw [wrap_id (by omega) (by omega), hlast]
        refine Ev.ite_pos (by omega) (Ev.ite_pos (by omega) (Ev.bind T (Ev.ite_pos (by omega) ?_)))
        refine Ev.call rfl ?_
        refine Ev.ite_pos h1.1 (Ev.ite_pos h1.2 (Ev.bind Q ?_))
        refine Ev.ite_neg (by omega) (Ev.ite_pos (by omega) ?_)
        exact P
      · have hk : q.toNat < (way ++ [t]).length := by omega
        have hget : (((way ++ [t]).map (net V ls).a).getD q.toNat 0) = lB ls t := by
          show ((way ++ [t]).map (lA ls)).getD q.toNat 0 = lB ls t
          rw [hmap]; exact q3
        have hnd : ((way ++ [t]).map (net V ls).a).Nodup := by
          show ((way ++ [t]).map (lA ls)).Nodup
          rw [hmap]; exact hn
        refine ⟨(way ++ [t]).drop q.toNat, ?_, walk_cyc ht2 hfl2 hnd hk hget⟩
        refine Ev.step (fun k => by rw [cycle_find.l0]) ?_
        rw [wrap_id (by omega) (by omega), hlast]
        refine Ev.ite_pos (by omega) (Ev.ite_pos (by omega) (Ev.bind T (Ev.ite_pos (by omega) ?_)))
        refine Ev.call rfl ?_
        refine Ev.ite_pos h1.1 (Ev.ite_pos h1.2 (Ev.bind Q ?_))
        refine Ev.ite_pos q1 (Ev.ite_pos q1 (Ev.ite_pos (by omega) ?_))
        refine Ev.call (CloneK_eq (by rw [List.length_drop]; omega)) (Ev.now _)

/-- what cycle.find tells: no round at all, or a cycle -/
theorem find_ev (hg : GOk V ls) (hf : f.length = ls.length) : ∃ p : List Int, Ev (fun k => cycle_find.f k V ls f) p ∧ ((p = [] ∧ ∀ q, ¬ Rnd (net V ls) (rd f) q) ∨ Cyc (net V ls) (rd f) p) := by
  have hv2 := hg.v2
  have hv8 := hg.v8
  have hN := net_ok hg
  have hNV : ((net V ls).V : Int) = V := net_V (by omega)
  obtain ⟨X, E, hX, hc, hall⟩ := core_ev hg hf
  obtain ⟨t, T, h⟩ := indexB_loop X (by omega) X.length 0 (by omega) (by omega) (fun j a b => by omega)
  rcases h with ⟨h1, h2⟩ | ⟨h1, h2, h3⟩
  · refine ⟨[], ?_, .inl ⟨rfl, fun q hq => ?_⟩⟩
    · unfold cycle_find.f
      refine Ev.bind E (Ev.bind T (Ev.ite_pos (by omega) (Ev.now _)))
    · obtain ⟨v, v0, v1, hv⟩ := rnd_some hN hq
      have := hall _ (rnd_set hq) v v0 (by rw [← hNV]; exact v1) hv
      rw [h2 v v0 (by omega)] at this
      cases this
  · obtain ⟨p, P, C⟩ := find_walk hg hf hX hc (s := t) V.toNat [] t (by simp) (by simp) rfl ⟨h1, by omega⟩ h3 (fun l hl => by cases hl) (by simp)
    refine ⟨p, ?_, .inr C⟩
    unfold cycle_find.f
    exact Ev.bind E (Ev.bind T (Ev.ite_neg (by omega) P))
end

theorem awake14 : Ev (fun k => tollbarlaw14_awake.f k) true := Ev.of tollbarlaw14_awake.mono (k := 200) (by decide +kernel)

theorem Num_eq14 (x : Int) : tollbarlaw0_Num.f x = some x := rfl

theorem lies_ev (V : Int) (ls : List S42) (f : List Int) (hl : ls.length ≤ 17592186044416) : Ev (fun k => cycle_lies.f k V ls f) (decide (Fine V ls f)) := by
  unfold cycle_lies.f
  refine Ev.bind (graph_Caps_ev V ls hl) (Ev.bind (stream_Lies_ev V ls _ f) ?_)
  have e : decide (CapsOk V ls (ls.map (·.f2)) ∧ Win (ls.map (·.f2)) f) = decide (Fine V ls f) := by
    by_cases h : Fine V ls f
    · rw [decide_eq_true h, decide_eq_true ((fine_iff V ls f).2 h)]
    · rw [decide_eq_false h, decide_eq_false (fun g => h ((fine_iff V ls f).1 g))]
  rw [e]
  exact Ev.now _

theorem Find_ev {V : Int} {ls : List S42} {f : List Int} (h : Fine V ls f) : ∃ p : List Int, Ev (fun k => cycle_Find.f k V ls f) (p, decide ((p.length : Int) > 0), 0) ∧ ((p = [] ∧ ∀ q, ¬ Rnd (net V ls) (rd f) q) ∨ Cyc (net V ls) (rd f) p) := by
  have hm := h.g.m16
  obtain ⟨p, P, c⟩ := find_ev h.g h.len
  refine ⟨p, ?_, c⟩
  unfold cycle_Find.f
  refine Ev.bind (lies_ev V ls f (by omega)) (Ev.ite_pos (decide_eq_true h) ?_)
  exact Ev.bind P (Ev.now _)

theorem Find_no {V : Int} {ls : List S42} {f : List Int} (h : ¬ Fine V ls f) (hl : ls.length ≤ 17592186044416) : Ev (fun k => cycle_Find.f k V ls f) ([], false, 1400) := by
  unfold cycle_Find.f
  refine Ev.bind (lies_ev V ls f hl) (Ev.ite_neg (by simp only [decide_eq_true_eq]; exact h) (Ev.now _))

/-- where something is closed there is a round -/
theorem closed_rnd {V : Int} {ls : List S42} {f : List Int} (hg : GOk V ls) (hf : f.length = ls.length) {Z : Int → Bool} (hZ : closed (net V ls) (rd f) Z) {v : Int} (v0 : 0 ≤ v) (v1 : v < V) (hv : Z v = true) : ∃ q, Rnd (net V ls) (rd f) q := by
  have hv2 := hg.v2
  have hv8 := hg.v8
  obtain ⟨X, E, hX, hc, hall⟩ := core_ev hg hf
  obtain ⟨p, P, C⟩ := find_walk hg hf hX hc (s := v) V.toNat [] v (by simp) (by simp) rfl ⟨v0, v1⟩ (hall Z hZ v v0 v1 hv) (fun l hl => by cases hl) (by simp)
  exact ⟨p, C.toRnd⟩

theorem Fine.swl {V : Int} {ls : List S42} {f : List Int} (h : Fine V ls f) : Fine V (ls.map swl) f :=
  ⟨h.g.swl, by rw [List.length_map]; exact h.len, fun i a b => by
    rw [List.length_map] at b
    rw [lC_swl]; exact h.le i a b⟩

theorem net_swl14 (V : Int) (ls : List S42) : net V (ls.map swl) = (net V ls).turn := by
  unfold net Net.turn
  rw [lA_swl, lB_swl, List.length_map]

theorem rnd_swl {V : Int} {ls : List S42} {f : List Int} (h : Fine V ls f) : (∃ q, Rnd (net V ls) (rd f) q) → ∃ q, Rnd (net V (ls.map swl)) (rd f) q := by
  rintro ⟨q, hq⟩
  have hN := net_ok h.g
  have hNV : ((net V ls).V : Int) = V := net_V (by have := h.g.v2; omega)
  obtain ⟨v, v0, v1, hv⟩ := rnd_some hN hq
  have hc : closed (net V (ls.map swl)) (rd f) (meets (net V ls) q) := by rw [net_swl14]; exact rnd_set_turn hq
  exact closed_rnd h.g.swl (by rw [List.length_map]; exact h.len) hc v0 (by rw [← hNV]; exact v1) hv

theorem swl_swl (ls : List S42) : (ls.map swl).map swl = ls := by
  rw [List.map_map]
  have e : (swl ∘ swl) = id := by funext x; rfl
  rw [e, List.map_id]

theorem rnd_swl_iff {V : Int} {ls : List S42} {f : List Int} (h : Fine V ls f) : (∃ q, Rnd (net V ls) (rd f) q) ↔ ∃ q, Rnd (net V (ls.map swl)) (rd f) q := by
  refine ⟨rnd_swl h, fun g => ?_⟩
  have := rnd_swl (Fine.swl h) g
  rw [swl_swl] at this
  exact this

theorem turned14 {V : Int} {ls : List S42} {f : List Int} (h : Fine V ls f) {is : Bool} (hi : is = true ↔ ∃ q, Rnd (net V ls) (rd f) q) (d : Nat) :
    ∀ (i : Nat), i ≤ ls.length → ls.length - i = d → Ev (fun k => tollbarlaw14_CycleTurned.l0 k f is (i : Int) V ls V (mixed ls i)) true := by
  have hm := h.g.m16
  induction d with
  | zero =>
    intro i hi2 hd
    obtain rfl : i = ls.length := by omega
    obtain ⟨p, P, c⟩ := Find_ev (Fine.swl h)
    have e : (is == decide ((p.length : Int) > 0)) = true := by
      rcases c with ⟨rfl, hn⟩ | c
      · have : is = false := by
          cases g : is with
          | false => rfl
          | true =>
            obtain ⟨q, hq⟩ := (rnd_swl_iff h).1 (hi.1 g)
            exact absurd hq (hn q)
        rw [this]; rfl
      · have hp : (p.length : Int) > 0 := by
          have := List.length_pos_iff.2 c.ne
          omega
        have : is = true := hi.2 ((rnd_swl_iff h).2 ⟨p, c.toRnd⟩)
        rw [this, decide_eq_true hp]; rfl
    refine Ev.step (fun k => by rw [tollbarlaw14_CycleTurned.l0]) ?_
    refine Ev.ite_neg (by rw [mixed_len]; omega) ?_
    rw [mixed_all]
    refine Ev.bind P (Ev.bind awake14 (Ev.ite_pos rfl (Ev.call (Num_eq14 _) (Ev.ite_pos rfl ?_))))
    show Ev (fun _ => some (is == decide ((p.length : Int) > 0))) true
    rw [e]
    exact Ev.now _
  | succ d ih =>
    intro i hi2 hd
    have X := ih (i + 1) (by omega) (by omega)
    have hlt : i < ls.length := by omega
    have hg1 : rd_T42 (mixed ls i) (i : Int) = ls.getD i z42 := by
      unfold rd_T42
      rw [Int.toNat_natCast, mixed_gd hlt, if_neg (by omega)]
    have hg2 : rd_T42 ls (i : Int) = ls.getD i z42 := by unfold rd_T42; rw [Int.toNat_natCast]
    have hg3 : ∀ x : S42, rd_T42 ((mixed ls i).set i x) (i : Int) = x := fun x => by
      unfold rd_T42
      rw [Int.toNat_natCast, gd_set_eq (by rw [mixed_len]; exact hlt)]
    refine Ev.step (fun k => by rw [tollbarlaw14_CycleTurned.l0]) ?_
    refine Ev.ite_pos (by rw [mixed_len]; omega) ?_
    refine Ev.ite_pos (by omega) ?_
    refine Ev.ite_pos (by omega) ?_
    refine Ev.call rfl ?_
    rw [Int.toNat_natCast, hg1, hg2, hg3]
    have es : ((mixed ls i).set i (⟨(ls.getD i z42).f1, (ls.getD i z42).f1, (ls.getD i z42).f2⟩ : S42)).set i (⟨(ls.getD i z42).f1, (ls.getD i z42).f0, (ls.getD i z42).f2⟩ : S42) = mixed ls (i + 1) := mixed_step hlt _ _ rfl
    show Ev (fun n => tollbarlaw14_CycleTurned.l0 n f is (wrap64 ((i : Int) + 1)) V ls V (((mixed ls i).set i (⟨(ls.getD i z42).f1, (ls.getD i z42).f1, (ls.getD i z42).f2⟩ : S42)).set i (⟨(ls.getD i z42).f1, (ls.getD i z42).f0, (ls.getD i z42).f2⟩ : S42))) true
    rw [es]
    exact Ev.congr (fun k => by rw [wrap_succ (by omega)]) X

theorem CycleTurned (V : Int) (ls : List S42) (f : List Int) (hl : ls.length ≤ 17592186044416) : Ev (fun k => tollbarlaw14_CycleTurned.f k V ls f) true := by
  unfold tollbarlaw14_CycleTurned.f
  by_cases h : Fine V ls f
  · have hm := h.g.m16
    obtain ⟨p, P, c⟩ := Find_ev h
    refine Ev.bind P (Ev.call (Num_eq14 _) (Ev.ite_pos rfl ?_))
    refine Ev.call (CopyGraph_eq V ls (by omega)) ?_
    have hi : decide ((p.length : Int) > 0) = true ↔ ∃ q, Rnd (net V ls) (rd f) q := by
      rcases c with ⟨rfl, hn⟩ | c
      · exact ⟨fun g => by simp at g, fun ⟨q, hq⟩ => absurd hq (hn q)⟩
      · have hp : (p.length : Int) > 0 := by
          have := List.length_pos_iff.2 c.ne
          omega
        exact ⟨fun _ => ⟨p, c.toRnd⟩, fun _ => decide_eq_true hp⟩
    have X := turned14 h hi ls.length 0 (by omega) (by omega)
    rw [mixed_zero] at X
    exact X
  · refine Ev.bind (Find_no h hl) (Ev.call (Num_eq14 _) (Ev.ite_neg (by decide) (Ev.now _)))

end Go.Proofs.Ytjjfpkfpmpeikaa.Q
end
