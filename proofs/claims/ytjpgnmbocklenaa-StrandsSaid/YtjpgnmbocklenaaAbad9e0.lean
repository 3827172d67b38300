/- Texts of this claim, one behind the other: Ba. -/
import Derived.Test.YtjpgnmbocklenaaWWords
section
/- Sums, networks, cuts, levels, lists by their places, rounds: plain lemmas. -/
set_option linter.unusedVariables false
set_option linter.unusedSimpArgs false
/-! sums over 0..m-1, networks, gains, flows over the border of a set, cuts: plain numbers -/
namespace Go.Proofs.Ytjpgnmbocklenaa.Plain

/-- f 0 + .. + f (m-1) -/
def S : Nat → (Int → Int) → Int
  | 0, _ => 0
  | m + 1, f => S m f + f (m : Int)

theorem S_congr {m : Nat} {f g : Int → Int} (h : ∀ i : Int, 0 ≤ i → i < (m : Int) → f i = g i) : S m f = S m g := by
  induction m with
  | zero => rfl
  | succ m ih =>
    simp only [S]
    rw [ih (fun i h0 h1 => h i h0 (by omega)), h m (by omega) (by omega)]

theorem S_add (m : Nat) (f g : Int → Int) : S m (fun i => f i + g i) = S m f + S m g := by
  induction m with
  | zero => rfl
  | succ m ih => simp only [S]; rw [ih]; omega

theorem S_sub (m : Nat) (f g : Int → Int) : S m (fun i => f i - g i) = S m f - S m g := by
  induction m with
  | zero => rfl
  | succ m ih => simp only [S]; rw [ih]; omega

theorem S_zero (m : Nat) : S m (fun _ => 0) = 0 := by
  induction m with
  | zero => rfl
  | succ m ih => simp only [S]; rw [ih]; rfl

theorem S_le {m : Nat} {f g : Int → Int} (h : ∀ i : Int, 0 ≤ i → i < (m : Int) → f i ≤ g i) : S m f ≤ S m g := by
  induction m with
  | zero => exact Int.le_refl _
  | succ m ih =>
    simp only [S]
    have h1 := ih (fun i h0 h1 => h i h0 (by omega))
    have h2 := h m (by omega) (by omega)
    omega

theorem S_nonneg {m : Nat} {f : Int → Int} (h : ∀ i : Int, 0 ≤ i → i < (m : Int) → 0 ≤ f i) : 0 ≤ S m f := by
  have := S_le (m := m) (f := fun _ => 0) (g := f) h
  rwa [S_zero] at this

theorem S_swap (m n : Nat) (f : Int → Int → Int) : S m (fun i => S n (fun j => f i j)) = S n (fun j => S m (fun i => f i j)) := by
  induction m with
  | zero => simp only [S]; rw [S_zero]
  | succ m ih => simp only [S]; rw [ih, ← S_add]

theorem S_single (m : Nat) (k c : Int) (h0 : 0 ≤ k) (h1 : k < (m : Int)) : S m (fun i => if i = k then c else 0) = c := by
  induction m with
  | zero => omega
  | succ m ih =>
    simp only [S]
    by_cases e : (m : Int) = k
    · rw [if_pos e]
      have : S m (fun i => if i = k then c else 0) = S m (fun _ => 0) := S_congr (fun i h0 h1 => if_neg (by omega))
      rw [this, S_zero]; omega
    · rw [if_neg e, ih (by omega)]; omega

theorem S_single' (m : Nat) (k c : Int) (h0 : 0 ≤ k) (h1 : k < (m : Int)) : S m (fun i => if k = i then c else 0) = c := by
  refine Eq.trans (S_congr (g := fun i => if i = k then c else 0) (fun i _ _ => ?_)) (S_single m k c h0 h1)
  by_cases e : i = k
  · rw [if_pos e, if_pos e.symm]
  · rw [if_neg e, if_neg (fun h => e h.symm)]

/-- f with x at k -/
def upd (f : Int → Int) (k x : Int) : Int → Int := fun i => if i = k then x else f i

theorem S_upd {m : Nat} {f : Int → Int} {k x : Int} (h0 : 0 ≤ k) (h1 : k < (m : Int)) : S m (upd f k x) = S m f - f k + x := by
  have e : S m (upd f k x) = S m (fun i => f i + (if i = k then x - f k else 0)) :=
    S_congr (fun i _ _ => by unfold upd; by_cases e : i = k <;> simp [e]; omega)
  rw [e, S_add, S_single m k _ h0 h1]; omega

theorem S_one_le {m : Nat} {f : Int → Int} (h : ∀ i : Int, 0 ≤ i → i < (m : Int) → 0 ≤ f i) {k : Int} (h0 : 0 ≤ k) (h1 : k < (m : Int)) : f k ≤ S m f := by
  have := S_le (m := m) (f := fun i => if i = k then f k else 0) (g := f) (fun i a b => by
    show (if i = k then f k else 0) ≤ f i
    by_cases e : i = k
    · rw [if_pos e, e]; exact Int.le_refl _
    · rw [if_neg e]; exact h i a b)
  rwa [S_single m k _ h0 h1] at this

theorem S_eq_each {m : Nat} {f g : Int → Int} (h : ∀ i : Int, 0 ≤ i → i < (m : Int) → f i ≤ g i) (e : S m f = S m g) :
    ∀ i : Int, 0 ≤ i → i < (m : Int) → f i = g i := by
  intro i a b
  have h1 := S_one_le (m := m) (f := fun i => g i - f i) (fun i a b => by have := h i a b; show 0 ≤ g i - f i; omega) a b
  rw [S_sub] at h1
  have h2 := h i a b
  have h3 : g i - f i ≤ S m g - S m f := h1
  omega

/-- V vertices, m links from a i to b i -/
structure Net where
  V : Nat
  m : Nat
  a : Int → Int
  b : Int → Int

structure Net.ok (N : Net) : Prop where
  h : ∀ i : Int, 0 ≤ i → i < (N.m : Int) → (0 ≤ N.a i ∧ N.a i < (N.V : Int)) ∧ (0 ≤ N.b i ∧ N.b i < (N.V : Int)) ∧ N.a i ≠ N.b i

def Net.vert (N : Net) (v : Int) : Prop := 0 ≤ v ∧ v < (N.V : Int)

/-- all links turned -/
def Net.turn (N : Net) : Net := { V := N.V, m := N.m, a := N.b, b := N.a }

theorem Net.ok_turn {N : Net} (h : N.ok) : N.turn.ok := ⟨fun i a b => ⟨(h.h i a b).2.1, (h.h i a b).1, fun e => (h.h i a b).2.2 e.symm⟩⟩

def gain (N : Net) (f : Int → Int) (v : Int) : Int := S N.m (fun i => (if N.a i = v then f i else 0) - (if N.b i = v then f i else 0))

theorem gain_congr {N : Net} {f g : Int → Int} (h : ∀ i : Int, 0 ≤ i → i < (N.m : Int) → f i = g i) (v : Int) : gain N f v = gain N g v :=
  S_congr (fun i a b => by rw [h i a b])

theorem gain_turn (N : Net) (f : Int → Int) (v : Int) : gain N.turn f v = - gain N f v := by
  have h : gain N.turn f v + gain N f v = 0 := by
    show S N.m (fun i => (if N.b i = v then f i else 0) - (if N.a i = v then f i else 0)) + S N.m (fun i => (if N.a i = v then f i else 0) - (if N.b i = v then f i else 0)) = 0
    rw [← S_add, ← S_zero N.m]
    exact S_congr (fun i _ _ => by omega)
  omega

/-- what goes out of X -/
def out (N : Net) (f : Int → Int) (X : Int → Bool) : Int := S N.m (fun i => if X (N.a i) && !X (N.b i) then f i else 0)
/-- what comes into X -/
def inn (N : Net) (f : Int → Int) (X : Int → Bool) : Int := S N.m (fun i => if X (N.b i) && !X (N.a i) then f i else 0)

theorem S_ite_const (m : Nat) (c : Bool) (f : Int → Int) : (if c then S m f else 0) = S m (fun i => if c then f i else 0) := by
  cases c
  · simp [S_zero]
  · simp

theorem gains_of_set (N : Net) (hN : N.ok) (f : Int → Int) (X : Int → Bool) :
    S N.V (fun v => if X v then gain N f v else 0) = out N f X - inn N f X := by
  have e1 : S N.V (fun v => if X v then gain N f v else 0)
      = S N.V (fun v => S N.m (fun i => if X v then (if N.a i = v then f i else 0) - (if N.b i = v then f i else 0) else 0)) :=
    S_congr (fun v _ _ => S_ite_const _ _ _)
  rw [e1, S_swap]
  unfold out inn
  rw [← S_sub]
  refine S_congr (fun i h0 h1 => ?_)
  obtain ⟨⟨a0, a1⟩, ⟨b0, b1⟩, hab⟩ := hN.h i h0 h1
  have e2 : S N.V (fun v => if X v then (if N.a i = v then f i else 0) - (if N.b i = v then f i else 0) else 0)
      = S N.V (fun v => (if v = N.a i then (if X (N.a i) then f i else 0) else 0) - (if v = N.b i then (if X (N.b i) then f i else 0) else 0)) := by
    refine S_congr (fun v _ _ => ?_)
    by_cases ea : v = N.a i
    · subst ea
      by_cases eb : N.a i = N.b i
      · exact absurd eb hab
      · have : ¬ N.b i = N.a i := fun h => eb h.symm
        simp [eb, this]
    · have ea' : ¬ N.a i = v := fun h => ea h.symm
      by_cases eb : v = N.b i
      · subst eb
        simp [ea, ea']
        cases X (N.b i) <;> simp
      · have eb' : ¬ N.b i = v := fun h => eb h.symm
        simp [ea, ea', eb, eb']
  rw [e2, S_sub, S_single _ _ _ a0 a1, S_single _ _ _ b0 b1]
  cases X (N.a i) <;> cases X (N.b i) <;> simp

/-- all gains together -/
theorem gains_zero (N : Net) (hN : N.ok) (f : Int → Int) : S N.V (fun v => gain N f v) = 0 := by
  have h := gains_of_set N hN f (fun _ => true)
  simp only [if_true] at h
  rw [h]
  unfold out inn
  have : ∀ i : Int, 0 ≤ i → i < (N.m : Int) → (if (true && !true) = true then f i else 0) = (0 : Int) := fun i _ _ => by simp
  rw [S_congr this, S_zero]
  rfl

/-- f within c -/
def within (m : Nat) (c f : Int → Int) : Prop := ∀ i : Int, 0 ≤ i → i < (m : Int) → 0 ≤ f i ∧ f i ≤ c i

/-- f is a flow from s to t within c -/
structure Flow (N : Net) (c f : Int → Int) (s t : Int) : Prop where
  win : within N.m c f
  vs : N.vert s
  vt : N.vert t
  ne : s ≠ t
  pos : 0 ≤ gain N f s
  keep : ∀ v : Int, N.vert v → v ≠ s → v ≠ t → gain N f v = 0

theorem S_support {m : Nat} {f : Int → Int} {k : Int} (h0 : 0 ≤ k) (h1 : k < (m : Int)) (h : ∀ i : Int, 0 ≤ i → i < (m : Int) → i ≠ k → f i = 0) : S m f = f k := by
  rw [← S_single m k (f k) h0 h1]
  refine S_congr (fun i a b => ?_)
  by_cases e : i = k
  · rw [if_pos e, e]
  · rw [if_neg e, h i a b e]

theorem Flow.over {N : Net} (hN : N.ok) {c f : Int → Int} {s t : Int} (hf : Flow N c f s t) (X : Int → Bool) (hs : X s = true) (ht : X t = false) :
    gain N f s = out N f X - inn N f X := by
  rw [← gains_of_set N hN f X]
  rw [S_support (k := s) hf.vs.1 hf.vs.2]
  · simp [hs]
  · intro i a b e
    by_cases et : i = t
    · subst et; simp [ht]
    · rw [hf.keep i ⟨a, b⟩ e et]; simp

theorem Flow.gain_sink {N : Net} (hN : N.ok) {c f : Int → Int} {s t : Int} (hf : Flow N c f s t) : gain N f t = - gain N f s := by
  have h := gains_zero N hN f
  have e : S N.V (fun v => gain N f v) = S N.V (fun v => (if v = s then gain N f s else 0) + (if v = t then gain N f t else 0)) := by
    refine S_congr (fun v a b => ?_)
    by_cases es : v = s
    · subst es; have := hf.ne; simp [this]
    · by_cases et : v = t
      · subst et; simp [es]
      · rw [hf.keep v ⟨a, b⟩ es et]; simp [es, et]
  rw [e, S_add, S_single _ _ _ hf.vs.1 hf.vs.2, S_single _ _ _ hf.vt.1 hf.vt.2] at h
  omega

/-- what the links out of X take together -/
def worth (N : Net) (c : Int → Int) (X : Int → Bool) : Int := out N c X

theorem out_le {N : Net} {c f : Int → Int} (h : within N.m c f) (X : Int → Bool) : out N f X ≤ out N c X :=
  S_le (fun i a b => by have := h i a b; split <;> omega)

theorem inn_nonneg {N : Net} {c f : Int → Int} (h : within N.m c f) (X : Int → Bool) : 0 ≤ inn N f X :=
  S_nonneg (fun i a b => by have := h i a b; split <;> omega)

theorem out_nonneg {N : Net} {c f : Int → Int} (h : within N.m c f) (X : Int → Bool) : 0 ≤ out N f X :=
  S_nonneg (fun i a b => by have := h i a b; split <;> omega)

/-- a flow's value is at most what any set is worth -/
theorem Flow.le_worth {N : Net} (hN : N.ok) {c f : Int → Int} {s t : Int} (hf : Flow N c f s t) (X : Int → Bool) (hs : X s = true) (ht : X t = false) :
    gain N f s ≤ worth N c X := by
  rw [hf.over hN X hs ht]
  have h1 := out_le hf.win X
  have h2 := inn_nonneg hf.win X
  unfold worth
  omega

/-- arcs: of link i arc 2i goes forward, arc 2i+1 back -/
def tail (N : Net) (k : Int) : Int := if k % 2 = 1 then N.b (k / 2) else N.a (k / 2)
def head (N : Net) (k : Int) : Int := if k % 2 = 1 then N.a (k / 2) else N.b (k / 2)
def room (c f : Int → Int) (k : Int) : Int := if k % 2 = 1 then f (k / 2) else c (k / 2) - f (k / 2)
def Net.arc (N : Net) (k : Int) : Prop := 0 ≤ k ∧ k < 2 * (N.m : Int)

/-- an arc with room leads from u to v -/
def Res (N : Net) (c f : Int → Int) (u v : Int) : Prop := ∃ k, N.arc k ∧ tail N k = u ∧ head N k = v ∧ 0 < room c f k

/-- the reach of s by E -/
inductive Reach (E : Int → Int → Prop) (s : Int) : Int → Prop
  | base : Reach E s s
  | step {u v : Int} : Reach E s u → E u v → Reach E s v

/-- a set that is closed under arcs with room, and a flow: its worth is the flow's value -/
theorem Flow.eq_worth {N : Net} (hN : N.ok) {c f : Int → Int} {s t : Int} (hf : Flow N c f s t) (X : Int → Bool) (hs : X s = true) (ht : X t = false)
    (hX : ∀ u v, X u = true → Res N c f u v → X v = true) : gain N f s = worth N c X := by
  rw [hf.over hN X hs ht]
  have e1 : out N f X = out N c X := by
    refine S_congr (fun i a b => ?_)
    by_cases h : (X (N.a i) && !X (N.b i)) = true
    · rw [if_pos h, if_pos h]
      simp only [Bool.and_eq_true, Bool.not_eq_true'] at h
      have hw := hf.win i a b
      by_cases hr : 0 < c i - f i
      · have := hX (N.a i) (N.b i) h.1 ⟨2 * i, ⟨by omega, by omega⟩, by unfold tail; rw [if_neg (by omega)]; congr 1; omega,
          by unfold head; rw [if_neg (by omega)]; congr 1; omega, by unfold room; rw [if_neg (by omega)]; rw [show 2 * i / 2 = i from by omega]; exact hr⟩
        rw [h.2] at this; exact absurd this (by simp)
      · omega
    · rw [if_neg h, if_neg h]
  have e2 : inn N f X = 0 := by
    rw [← S_zero N.m]
    refine S_congr (fun i a b => ?_)
    by_cases h : (X (N.b i) && !X (N.a i)) = true
    · rw [if_pos h]
      simp only [Bool.and_eq_true, Bool.not_eq_true'] at h
      have hw := hf.win i a b
      by_cases hr : 0 < f i
      · have := hX (N.b i) (N.a i) h.1 ⟨2 * i + 1, ⟨by omega, by omega⟩, by unfold tail; rw [if_pos (by omega)]; congr 1; omega,
          by unfold head; rw [if_pos (by omega)]; congr 1; omega, by unfold room; rw [if_pos (by omega)]; rw [show (2 * i + 1) / 2 = i from by omega]; exact hr⟩
        rw [h.2] at this; exact absurd this (by simp)
      · omega
    · rw [if_neg h]
  rw [e1, e2]
  unfold worth
  omega

end Go.Proofs.Ytjpgnmbocklenaa.Plain
/-! levels: how many steps lead to a vertex -/
namespace Go.Proofs.Ytjpgnmbocklenaa.Plain

/-- L tells of each vertex how many steps of E lead there from s; -1: none do -/
structure Lev (V : Nat) (E : Int → Int → Prop) (s : Int) (L : Int → Int) : Prop where
  src : L s = 0
  low : ∀ v : Int, 0 ≤ v → v < (V : Int) → -1 ≤ L v
  on : ∀ u v : Int, 0 ≤ u → u < (V : Int) → 0 ≤ v → v < (V : Int) → E u v → 0 ≤ L u → 0 ≤ L v ∧ L v ≤ L u + 1
  back : ∀ v : Int, 0 ≤ v → v < (V : Int) → 1 ≤ L v → ∃ u : Int, 0 ≤ u ∧ u < (V : Int) ∧ E u v ∧ L u = L v - 1
  zero : ∀ v : Int, 0 ≤ v → v < (V : Int) → L v = 0 → v = s

theorem Lev.le {V : Nat} {E : Int → Int → Prop} {s : Int} {L M : Int → Int} (h : Lev V E s L) (g : Lev V E s M) (n : Nat) :
    ∀ v : Int, 0 ≤ v → v < (V : Int) → L v = n → 0 ≤ M v ∧ M v ≤ L v := by
  induction n with
  | zero =>
    intro v h0 h1 e
    have := h.zero v h0 h1 e
    subst this
    rw [g.src, h.src]; omega
  | succ n ih =>
    intro v h0 h1 e
    obtain ⟨u, u0, u1, hE, hu⟩ := h.back v h0 h1 (by omega)
    have h2 := ih u u0 u1 (by omega)
    have h3 := g.on u v u0 u1 h0 h1 hE h2.1
    omega

theorem Lev.unique {V : Nat} {E : Int → Int → Prop} {s : Int} {L M : Int → Int} (h : Lev V E s L) (g : Lev V E s M)
    (v : Int) (h0 : 0 ≤ v) (h1 : v < (V : Int)) : L v = M v := by
  have l1 := h.low v h0 h1
  have l2 := g.low v h0 h1
  by_cases a : 0 ≤ L v
  · have h2 := h.le g (L v).toNat v h0 h1 (by omega)
    have h3 := g.le h (M v).toNat v h0 h1 (by omega)
    omega
  · by_cases b : 0 ≤ M v
    · have h3 := g.le h (M v).toNat v h0 h1 (by omega)
      omega
    · omega

theorem Lev.congr {V : Nat} {E F : Int → Int → Prop} {s : Int} {L : Int → Int} (h : Lev V E s L)
    (e : ∀ u v : Int, 0 ≤ u → u < (V : Int) → 0 ≤ v → v < (V : Int) → (E u v ↔ F u v)) : Lev V F s L :=
  ⟨h.src, h.low, fun u v a b c d hF => h.on u v a b c d ((e u v a b c d).2 hF),
   fun v a b hL => by obtain ⟨u, u0, u1, hE, hu⟩ := h.back v a b hL; exact ⟨u, u0, u1, (e u v u0 u1 a b).1 hE, hu⟩, h.zero⟩

/-- how many there are of levels 0 to d -/
def cnt (V : Nat) (P : Int → Bool) : Int := S V (fun v => if P v then 1 else 0)

theorem cnt_le (V : Nat) (P : Int → Bool) : cnt V P ≤ V := by
  unfold cnt
  induction V with
  | zero => simp [S]
  | succ n ih => simp only [S]; split <;> omega

theorem cnt_mono {V : Nat} {P Q : Int → Bool} (h : ∀ v : Int, 0 ≤ v → v < (V : Int) → P v = true → Q v = true) : cnt V P ≤ cnt V Q :=
  S_le (fun i a b => by
    by_cases p : P i = true
    · rw [if_pos p, if_pos (h i a b p)]; exact Int.le_refl _
    · rw [if_neg p]; split <;> omega)

theorem cnt_lt {V : Nat} {P Q : Int → Bool} (h : ∀ v : Int, 0 ≤ v → v < (V : Int) → P v = true → Q v = true)
    {v : Int} (h0 : 0 ≤ v) (h1 : v < (V : Int)) (hp : P v = false) (hq : Q v = true) : cnt V P + 1 ≤ cnt V Q := by
  unfold cnt
  have := S_one_le (m := V) (f := fun v => (if Q v = true then (1 : Int) else 0) - (if P v = true then 1 else 0)) (k := v)
    (fun i a b => by
      show 0 ≤ (if Q i = true then (1 : Int) else 0) - (if P i = true then 1 else 0)
      by_cases p : P i = true
      · rw [if_pos p, if_pos (h i a b p)]; omega
      · rw [if_neg p]; split <;> omega) h0 h1
  rw [S_sub] at this
  simp only [hp, hq, if_true] at this
  simp at this
  omega

theorem cnt_nonneg (V : Nat) (P : Int → Bool) : 0 ≤ cnt V P := S_nonneg (fun i _ _ => by split <;> omega)

theorem Lev.many {V : Nat} {E : Int → Int → Prop} {s : Int} {L : Int → Int} (h : Lev V E s L) (d : Nat) :
    ∀ v : Int, 0 ≤ v → v < (V : Int) → L v = d → (d : Int) + 1 ≤ cnt V (fun u => decide (0 ≤ L u ∧ L u ≤ d)) := by
  induction d with
  | zero =>
    intro v h0 h1 e
    have := cnt_lt (V := V) (P := fun _ => false) (Q := fun u => decide (0 ≤ L u ∧ L u ≤ (0 : Nat))) (by simp) h0 h1 rfl (by simp; omega)
    have := cnt_nonneg V (fun _ => false)
    omega
  | succ d ih =>
    intro v h0 h1 e
    obtain ⟨u, u0, u1, hE, hu⟩ := h.back v h0 h1 (by omega)
    have h2 := ih u u0 u1 (by omega)
    have h3 := cnt_lt (V := V) (P := fun u => decide (0 ≤ L u ∧ L u ≤ d)) (Q := fun u => decide (0 ≤ L u ∧ L u ≤ ((d + 1 : Nat) : Int)))
      (fun w _ _ hw => by simp at hw ⊢; omega) h0 h1 (by simp; omega) (by simp; omega)
    omega

theorem Lev.lt {V : Nat} {E : Int → Int → Prop} {s : Int} {L : Int → Int} (h : Lev V E s L) (v : Int) (h0 : 0 ≤ v) (h1 : v < (V : Int)) : L v < V := by
  by_cases a : 0 ≤ L v
  · have h2 := h.many (L v).toNat v h0 h1 (by omega)
    have h3 := cnt_le V (fun u => decide (0 ≤ L u ∧ L u ≤ ((L v).toNat : Int)))
    omega
  · omega

/-- a level is a reach -/
theorem Lev.reach {V : Nat} {E : Int → Int → Prop} {s : Int} {L : Int → Int} (h : Lev V E s L) (n : Nat) :
    ∀ v : Int, 0 ≤ v → v < (V : Int) → L v = n → Reach (fun u w => E u w ∧ 0 ≤ L u ∧ L w = L u + 1) s v := by
  induction n with
  | zero => intro v h0 h1 e; have := h.zero v h0 h1 e; subst this; exact .base
  | succ n ih =>
    intro v h0 h1 e
    obtain ⟨u, u0, u1, hE, hu⟩ := h.back v h0 h1 (by omega)
    exact .step (ih u u0 u1 (by omega)) ⟨hE, by omega, by omega⟩

theorem Reach.mono {E F : Int → Int → Prop} {s v : Int} (h : Reach E s v) (e : ∀ u v, E u v → F u v) : Reach F s v := by
  induction h with
  | base => exact .base
  | step _ hE ih => exact .step ih (e _ _ hE)

theorem Reach.trans {E : Int → Int → Prop} {s u v : Int} (h : Reach E s u) (g : Reach E u v) : Reach E s v := by
  induction g with
  | base => exact h
  | step _ hE ih => exact .step ih hE

theorem Reach.head {E : Int → Int → Prop} {s u v : Int} (h : E s u) (g : Reach E u v) : Reach E s v := Reach.trans (.step .base h) g

theorem Reach.closed {E : Int → Int → Prop} {s : Int} {X : Int → Prop} (hs : X s) (hX : ∀ u v, X u → E u v → X v) {v : Int} (h : Reach E s v) : X v := by
  induction h with
  | base => exact hs
  | step _ hE ih => exact hX _ _ ih hE

/-- Dinic's step: L levels of E, M levels of F. F leads nowhere that E doesn't, but back from one level to the one below. -/
theorem Lev.deeper {V : Nat} {E F : Int → Int → Prop} {s : Int} {L M : Int → Int} (h : Lev V E s L) (g : Lev V F s M)
    (hF : ∀ u v : Int, 0 ≤ u → u < (V : Int) → 0 ≤ v → v < (V : Int) → F u v → E u v ∨ (0 ≤ L v ∧ L u = L v + 1)) (n : Nat) :
    ∀ v : Int, 0 ≤ v → v < (V : Int) → M v = n → 0 ≤ L v ∧ L v ≤ M v ∧ (L v = M v → Reach (fun u w => F u w ∧ E u w ∧ 0 ≤ L u ∧ L w = L u + 1) s v) := by
  induction n with
  | zero =>
    intro v h0 h1 e
    have := g.zero v h0 h1 e
    subst this
    rw [h.src, g.src]
    exact ⟨by omega, by omega, fun _ => .base⟩
  | succ n ih =>
    intro v h0 h1 e
    obtain ⟨u, u0, u1, hFu, hu⟩ := g.back v h0 h1 (by omega)
    obtain ⟨i1, i2, i3⟩ := ih u u0 u1 (by omega)
    rcases hF u v u0 u1 h0 h1 hFu with hE | ⟨hv, hl⟩
    · have h3 := h.on u v u0 u1 h0 h1 hE i1
      exact ⟨h3.1, by omega, fun e' => .step (i3 (by omega)) ⟨hFu, hE, i1, by omega⟩⟩
    · exact ⟨hv, by omega, fun e' => by omega⟩

end Go.Proofs.Ytjpgnmbocklenaa.Plain
/-! lists by their places; rounds -/
namespace Go.Proofs.Ytjpgnmbocklenaa.Plain
open Go.RowKit Go.Proofs.YtjpgnmbocklenaaW.PrintWords

theorem wrap_id {x : Int} (h0 : -9223372036854775808 ≤ x) (h1 : x < 9223372036854775808) : wrap64 x = x := by
  unfold wrap64; omega

theorem wrap_succ {i : Nat} (h : i < 9223372036854775807) : wrap64 ((i : Int) + 1) = ((i + 1 : Nat) : Int) := by
  rw [wrap_id (by omega) (by omega)]; omega

theorem gd_left {α : Type} {xs ys : List α} {d : α} {i : Nat} (h : i < xs.length) : (xs ++ ys).getD i d = xs.getD i d := by
  simp only [List.getD_eq_getElem?_getD]; rw [List.getElem?_append_left h]
theorem gd_right {α : Type} {xs ys : List α} {d : α} {i : Nat} (h : xs.length ≤ i) : (xs ++ ys).getD i d = ys.getD (i - xs.length) d := by
  simp only [List.getD_eq_getElem?_getD]; rw [List.getElem?_append_right h]
theorem gd_set_eq {α : Type} {xs : List α} {d v : α} {i : Nat} (h : i < xs.length) : (xs.set i v).getD i d = v := by
  simp only [List.getD_eq_getElem?_getD, List.getElem?_set_self h]; rfl
theorem gd_set_ne {α : Type} {xs : List α} {d v : α} {i j : Nat} (h : i ≠ j) : (xs.set i v).getD j d = xs.getD j d := by
  simp only [List.getD_eq_getElem?_getD, List.getElem?_set_ne h]
theorem gd_rep {α : Type} {n : Nat} {v d : α} {i : Nat} (h : i < n) : (List.replicate n v).getD i d = v := by
  simp [List.getD_eq_getElem?_getD, h]
theorem gd_ext {α : Type} {xs ys : List α} (d : α) (hl : xs.length = ys.length) (h : ∀ i, i < xs.length → xs.getD i d = ys.getD i d) : xs = ys := by
  apply List.ext_getElem hl
  intro i h1 h2
  have := h i h1
  simp only [List.getD_eq_getElem?_getD, List.getElem?_eq_getElem h1, List.getElem?_eq_getElem h2] at this
  exact this
theorem gd_mem {α : Type} {xs : List α} {d : α} {i : Nat} (h : i < xs.length) : xs.getD i d ∈ xs := by
  simp only [List.getD_eq_getElem?_getD, List.getElem?_eq_getElem h]
  exact List.getElem_mem h
theorem mem_gd {α : Type} {xs : List α} (d : α) {x : α} (h : x ∈ xs) : ∃ i, i < xs.length ∧ xs.getD i d = x := by
  obtain ⟨i, hi, e⟩ := List.getElem_of_mem h
  exact ⟨i, hi, by simp only [List.getD_eq_getElem?_getD, List.getElem?_eq_getElem hi]; exact e⟩

theorem rd_left {xs ys : List Int} {i : Int} (h0 : 0 ≤ i) (h : i < (xs.length : Int)) : rd (xs ++ ys) i = rd xs i := gd_left (by omega)
theorem rd_new {xs : List Int} {x : Int} : rd (xs ++ [x]) (xs.length : Int) = x := by
  unfold rd; rw [gd_right (by omega)]; simp
theorem rd_set {xs : List Int} {i j v : Int} (h0 : 0 ≤ i) (h1 : i < (xs.length : Int)) (g0 : 0 ≤ j) : rd (xs.set i.toNat v) j = if j = i then v else rd xs j := by
  unfold rd
  by_cases e : j = i
  · subst e; rw [if_pos rfl, gd_set_eq (by omega)]
  · rw [if_neg e, gd_set_ne (by omega)]
theorem rd_rep {n : Nat} {v i : Int} (h0 : 0 ≤ i) (h1 : i < (n : Int)) : rd (List.replicate n v) i = v := gd_rep (by omega)
theorem rd_ext {xs ys : List Int} (hl : xs.length = ys.length) (h : ∀ i : Int, 0 ≤ i → i < (xs.length : Int) → rd xs i = rd ys i) : xs = ys :=
  gd_ext 0 hl (fun i hi => by have := h i (by omega) (by omega); unfold rd at this; simpa using this)
theorem rdOf_set {α : Type} {d : α} {xs : List α} {i j : Int} {v : α} (h0 : 0 ≤ i) (h1 : i < (xs.length : Int)) (g0 : 0 ≤ j) : rdOf d (xs.set i.toNat v) j = if j = i then v else rdOf d xs j := by
  unfold rdOf
  by_cases e : j = i
  · subst e; rw [if_pos rfl, gd_set_eq (by omega)]
  · rw [if_neg e, gd_set_ne (by omega)]
theorem rdOf_rep {α : Type} {d v : α} {n : Nat} {i : Int} (h0 : 0 ≤ i) (h1 : i < (n : Int)) : rdOf d (List.replicate n v) i = v := gd_rep (by omega)

/-- the numbers 0 to n-1 -/
def ints (n : Nat) : List Int := (List.range n).map (fun (i : Nat) => (i : Int))
theorem ints_len (n : Nat) : (ints n).length = n := by simp [ints]
theorem ints_succ (n : Nat) : ints (n + 1) = ints n ++ [(n : Int)] := by simp [ints, List.range_succ]
theorem ints_mem {n : Nat} {i : Int} : i ∈ ints n ↔ 0 ≤ i ∧ i < (n : Int) := by
  unfold ints
  simp only [List.mem_map, List.mem_range]
  constructor
  · rintro ⟨a, h, rfl⟩; omega
  · intro h; exact ⟨i.toNat, by omega, by omega⟩
theorem rd_ints {n : Nat} {i : Int} (h0 : 0 ≤ i) (h1 : i < (n : Int)) : rd (ints n) i = i := by
  unfold rd ints
  simp [List.getD_eq_getElem?_getD, List.getElem?_map, List.getElem?_range (show i.toNat < n by omega)]
  omega

/-- f at 0 to n-1 -/
def tab {α : Type} (n : Nat) (f : Int → α) : List α := (ints n).map f
theorem tab_len {α : Type} (n : Nat) (f : Int → α) : (tab n f).length = n := by simp [tab, ints_len]
theorem tab_succ {α : Type} (n : Nat) (f : Int → α) : tab (n + 1) f = tab n f ++ [f (n : Int)] := by simp [tab, ints_succ]
theorem rd_tab {n : Nat} {f : Int → Int} {i : Int} (h0 : 0 ≤ i) (h1 : i < (n : Int)) : rd (tab n f) i = f i := by
  have := rd_ints h0 h1
  unfold rd at *
  unfold tab
  simp only [List.getD_eq_getElem?_getD, List.getElem?_map] at *
  have hl : i.toNat < (ints n).length := by rw [ints_len]; omega
  rw [List.getElem?_eq_getElem hl] at *
  simp at this ⊢
  rw [this]
theorem eq_tab {xs : List Int} {n : Nat} {f : Int → Int} (hl : xs.length = n) (h : ∀ i : Int, 0 ≤ i → i < (n : Int) → rd xs i = f i) : xs = tab n f :=
  rd_ext (by rw [hl, tab_len]) (fun i h0 h1 => by rw [h i h0 (by omega), rd_tab h0 (by omega)])

attribute [local instance] Classical.propDecidable

/-- Two rounds that end alike. -/
theorem Ev.inj {α : Type} {g : Nat → Option α} {r s : α} (h : Ev g r) (k : Ev g s) : r = s := by
  obtain ⟨K, h⟩ := h
  obtain ⟨L, k⟩ := k
  have h1 := h (max K L) (by omega)
  have h2 := k (max K L) (by omega)
  rw [h1] at h2
  exact Option.some.inj h2

theorem Ev.ite_pos {α : Type} {c : Prop} [Decidable c] {g f : Nat → Option α} {r : α} (hc : c) (h : Ev g r) : Ev (fun k => if c then g k else f k) r :=
  Ev.congr (fun _ => if_pos hc) h
theorem Ev.ite_neg {α : Type} {c : Prop} [Decidable c] {g f : Nat → Option α} {r : α} (hc : ¬ c) (h : Ev f r) : Ev (fun k => if c then g k else f k) r :=
  Ev.congr (fun _ => if_neg hc) h
/-- a call that has no rounds -/
theorem Ev.call {α β : Type} {o : Option α} {f : Nat → α → Option β} {a : α} {r : β} (h : o = some a) (k : Ev (fun n => f n a) r) : Ev (fun n => o.bind (f n)) r :=
  Ev.congr (fun _ => by rw [h]; rfl) k

end Go.Proofs.Ytjpgnmbocklenaa.Plain
end
