/- Texts of this claim, one behind the other: QStrands. -/
import Derived.Test.YtjpgnmbocklenaaAfffe51
import Derived.Test.YtjpgnmbocklenaaAc88203
import Derived.Test.YtjpgnmbocklenaaAbad9e0
import Derived.Test.YtjpgnmbocklenaaAb38411
import Derived.Test.YtjpgnmbocklenaaAbfada6
import Derived.Test.YtjpgnmbocklenaaA8da996
section
/- What the law Strands leans on, and the law itself on what its printed walk tells: plain. -/
namespace Go.Proofs.Ytjpgnmbocklenaa.Q
open Go.RowKit Go.Proofs.YtjpgnmbocklenaaW.PrintWords Go.Proofs.YtjpgnmbocklenaaW.PrintMore Go.Proofs.Ytjpgnmbocklenaa.PAll Go.Proofs.Ytjpgnmbocklenaa.Plain
set_option linter.unusedVariables false
set_option linter.unusedSimpArgs false
attribute [local instance] Classical.propDecidable
def Trail (N : Net) : Int → List Int → Int → Prop
 | u, [], w => u = w
 | u, l :: p, w => (0 ≤ l ∧ l < (N.m : Int)) ∧ N.a l = u ∧ Trail N (N.b l) p w
theorem Trail.app {N : Net} {p q : List Int} : ∀ {u v w : Int}, Trail N u p v → Trail N v q w → Trail N u (p ++ q) w := by
 induction p with
 | nil => intro u v w h g; cases h; exact g
 | cons l p ih => intro u v w h g; exact ⟨h.1, h.2.1, ih h.2.2 g⟩
theorem Trail.mem {N : Net} {p : List Int} : ∀ {u w : Int}, Trail N u p w → ∀ l ∈ p, 0 ≤ l ∧ l < (N.m : Int) := by
 induction p with
 | nil => intro u w h l hl; cases hl
 | cons k p ih =>
  intro u w h l hl
  rcases List.mem_cons.1 hl with e | hl
  · rw [e]; exact h.1
  · exact ih h.2.2 l hl
theorem Trail.split {N : Net} {p q : List Int} : ∀ {u w : Int}, Trail N u (p ++ q) w → ∃ v, Trail N u p v ∧ Trail N v q w := by
 induction p with
 | nil => intro u w h; exact ⟨u, rfl, h⟩
 | cons l p ih =>
  intro u w h
  obtain ⟨v, h1, h2⟩ := ih h.2.2
  exact ⟨v, ⟨h.1, h.2.1, h1⟩, h2⟩
theorem gain_upd {N : Net} {f : Int → Int} {l x : Int} (h0 : 0 ≤ l) (h1 : l < (N.m : Int)) (v : Int) :
 gain N (upd f l x) v = gain N f v + (if N.a l = v then x - f l else 0) - (if N.b l = v then x - f l else 0) := by
 unfold gain
 have e : S N.m (fun i => (if N.a i = v then upd f l x i else 0) - (if N.b i = v then upd f l x i else 0)) = S N.m (upd (fun i => (if N.a i = v then f i else 0) - (if N.b i = v then f i else 0)) l ((if N.a l = v then x else 0) - (if N.b l = v then x else 0))) := by
  refine S_congr (fun i _ _ => ?_)
  unfold upd
  by_cases c : i = l
  · subst c; simp
  · simp [c]
 rw [e, S_upd h0 h1]
 by_cases c1 : N.a l = v <;> by_cases c2 : N.b l = v <;> simp [c1, c2] <;> omega
def lessAll (f : Int → Int) (y : Int) : List Int → (Int → Int)
 | [] => f
 | l :: p => lessAll (upd f l (f l - y)) y p
theorem gain_less {N : Net} {y : Int} (p : List Int) : ∀ {u w : Int} (f : Int → Int), Trail N u p w → ∀ v : Int,
 gain N (lessAll f y p) v = gain N f v - (if u = v then y else 0) + (if w = v then y else 0) := by
 induction p with
 | nil =>
  intro u w f h v
  cases h
  show gain N f v = _
  omega
 | cons l p ih =>
  intro u w f h v
  show gain N (lessAll (upd f l (f l - y)) y p) v = _
  rw [ih _ h.2.2 v, gain_upd h.1.1 h.1.2 v, h.2.1]
  by_cases c1 : u = v <;> by_cases c2 : N.b l = v <;> by_cases c3 : w = v <;> simp [c1, c2, c3] <;> omega
theorem lessAll_out {y : Int} (p : List Int) : ∀ (f : Int → Int) {i : Int}, i ∉ p → lessAll f y p i = f i := by
 induction p with
 | nil => intro f i h; rfl
 | cons l p ih =>
  intro f i h
  show lessAll (upd f l (f l - y)) y p i = _
  rw [ih _ (fun g => h (List.mem_cons_of_mem _ g))]
  unfold upd
  rw [if_neg (fun e => h (by rw [e]; exact List.mem_cons_self))]
theorem lessAll_in {y : Int} (p : List Int) : ∀ (f : Int → Int) {i : Int}, p.Nodup → i ∈ p → lessAll f y p i = f i - y := by
 induction p with
 | nil => intro f i h g; cases g
 | cons l p ih =>
  intro f i h g
  show lessAll (upd f l (f l - y)) y p i = _
  have hn := List.nodup_cons.1 h
  rcases List.mem_cons.1 g with e | g
  · rw [e, lessAll_out p _ hn.1]
    unfold upd; rw [if_pos rfl]
  · rw [ih _ hn.2 g]
    unfold upd
    rw [if_neg (fun e => hn.1 (by rw [← e]; exact g))]
def live (N : Net) (f : Int → Int) (X : Int → Bool) (v : Int) : Prop := ∃ i : Int, 0 ≤ i ∧ i < (N.m : Int) ∧ N.a i = v ∧ X (N.b i) = true ∧ 0 < f i
def closed (N : Net) (f : Int → Int) (X : Int → Bool) : Prop := ∀ v : Int, 0 ≤ v → v < (N.V : Int) → X v = true → live N f X v
theorem live.mono {N : Net} {f : Int → Int} {X Y : Int → Bool} {v : Int} (h : live N f X v) (g : ∀ v : Int, 0 ≤ v → v < (N.V : Int) → X v = true → Y v = true) (hN : N.ok) : live N f Y v := by
 obtain ⟨i, i0, i1, a, b, c⟩ := h
 have := hN.h i i0 i1
 exact ⟨i, i0, i1, a, g _ this.2.1.1 this.2.1.2 b, c⟩
structure Rnd (N : Net) (f : Int → Int) (p : List Int) : Prop where
 ne : p ≠ []
 round : ∃ u, Trail N u p u
 flow : ∀ l ∈ p, 0 < f l
structure Cyc (N : Net) (f : Int → Int) (p : List Int) : Prop extends Rnd N f p where
 once : (p.map N.a).Nodup
theorem nodup_of_map {g : Int → Int} {p : List Int} (h : (p.map g).Nodup) : p.Nodup := by
 induction p with
 | nil => exact List.nodup_nil
 | cons l p ih =>
  rw [List.map_cons, List.nodup_cons] at h
  rw [List.nodup_cons]
  exact ⟨fun g2 => h.1 (List.mem_map.2 ⟨l, g2, rfl⟩), ih h.2⟩
theorem Cyc.nodup {N : Net} {f : Int → Int} {p : List Int} (h : Cyc N f p) : p.Nodup := nodup_of_map h.once
theorem Rnd.goes {N : Net} {f : Int → Int} {p : List Int} (h : Rnd N f p) : ∀ v : Int, v ∈ p.map N.a → ∃ i ∈ p, N.a i = v ∧ N.b i ∈ p.map N.a := by
 obtain ⟨u, t⟩ := h.round
 have key : ∀ (q : List Int) (x w : Int), Trail N x q w → ∀ i ∈ q, N.b i ∈ q.map N.a ∨ N.b i = w := by
  intro q
  induction q with
  | nil => intro x w _ i hi; cases hi
  | cons l q ih =>
   intro x w t i hi
   rcases List.mem_cons.1 hi with e | hi
   · subst e
     cases q with
     | nil => exact .inr t.2.2
     | cons k q => exact .inl (by rw [← t.2.2.2.1]; simp)
   · rcases ih _ _ t.2.2 i hi with g | g
     · exact .inl (by simp only [List.map_cons]; exact List.mem_cons_of_mem _ g)
     · exact .inr g
 intro v hv
 obtain ⟨i, hi, e⟩ := List.mem_map.1 hv
 refine ⟨i, hi, e, ?_⟩
 rcases key p u u t i hi with g | g
 · exact g
 · rw [g]
   have hne := h.ne
   cases p with
   | nil => exact absurd rfl hne
   | cons l p => rw [← t.2.1]; simp
theorem Rnd.turn_closed {N : Net} {f : Int → Int} {p : List Int} (h : Rnd N f p) : ∀ v : Int, v ∈ p.map N.a → ∃ i ∈ p, N.b i = v ∧ N.a i ∈ p.map N.a := by
 obtain ⟨u, t⟩ := h.round
 have key : ∀ (q : List Int) (x w : Int), Trail N x q w → q ≠ [] → ∀ v ∈ q.map N.a, v = x ∨ ∃ i ∈ q, N.b i = v := by
  intro q
  induction q with
  | nil => intro x w _ hne; exact absurd rfl hne
  | cons l q ih =>
   intro x w t _ v hv
   simp only [List.map_cons] at hv
   rcases List.mem_cons.1 hv with e | hv
   · exact .inl (by rw [e]; exact t.2.1)
   · have hq : q ≠ [] := by intro e; rw [e] at hv; cases hv
     rcases ih _ _ t.2.2 hq v hv with g | ⟨i, hi, g⟩
     · exact .inr ⟨l, List.mem_cons_self, g.symm⟩
     · exact .inr ⟨i, List.mem_cons_of_mem _ hi, g⟩
 have last : ∀ (q : List Int) (x w : Int), Trail N x q w → q ≠ [] → ∃ i ∈ q, N.b i = w := by
  intro q
  induction q with
  | nil => intro x w _ hne; exact absurd rfl hne
  | cons l q ih =>
   intro x w t _
   cases q with
   | nil => exact ⟨l, by simp, t.2.2⟩
   | cons k q =>
    obtain ⟨i, hi, e⟩ := ih _ _ t.2.2 (by simp)
    exact ⟨i, List.mem_cons_of_mem _ hi, e⟩
 intro v hv
 rcases key p u u t h.ne v hv with e | ⟨i, hi, e⟩
 · obtain ⟨i, hi, e2⟩ := last p u u t h.ne
   exact ⟨i, hi, by rw [e2, e], List.mem_map.2 ⟨i, hi, rfl⟩⟩
 · exact ⟨i, hi, e, List.mem_map.2 ⟨i, hi, rfl⟩⟩
structure Peeled (N : Net) (f : Int → Int) (X X' : Int → Bool) : Prop where
 sub : ∀ v : Int, 0 ≤ v → v < (N.V : Int) → X' v = true → X v = true
 all : ∀ Y : Int → Bool, closed N f Y → (∀ v : Int, 0 ≤ v → v < (N.V : Int) → Y v = true → X v = true) → ∀ v : Int, 0 ≤ v → v < (N.V : Int) → Y v = true → X' v = true
theorem peel_step {N : Net} (hN : N.ok) {f : Int → Int} {X X' : Int → Bool} {b : Bool} {v : Int} (hX : ∀ u : Int, 0 ≤ u → u < (N.V : Int) → X' u = if u = v then (X v && b) else X u) (hb : X v = true → (b = true ↔ live N f X v)) : Peeled N f X X' := by
 constructor
 · intro u u0 u1 h
   rw [hX u u0 u1] at h
   by_cases e : u = v
   · rw [if_pos e] at h
     rw [e]
     simp at h; exact h.1
   · rwa [if_neg e] at h
 · intro Y hY hs u u0 u1 h
   rw [hX u u0 u1]
   by_cases e : u = v
   · rw [if_pos e]
     have h1 := hs u u0 u1 h
     rw [e] at h1
     have h2 : live N f X u := (hY u u0 u1 h).mono hs hN
     rw [e] at h2
     rw [h1, (hb h1).2 h2]; rfl
   · rw [if_neg e]; exact hs u u0 u1 h
theorem peel_same {N : Net} {X X' : Int → Bool} {b : Bool} {v : Int} (hX : ∀ u : Int, 0 ≤ u → u < (N.V : Int) → X' u = if u = v then (X v && b) else X u) (hb : X v = true → b = true) : ∀ u : Int, 0 ≤ u → u < (N.V : Int) → X' u = X u := by
 intro u u0 u1
 rw [hX u u0 u1]
 by_cases e : u = v
 · rw [if_pos e, e]
   cases h : X v with
   | false => rfl
   | true => rw [hb h]; rfl
 · rw [if_neg e]
theorem peel_less {N : Net} {X X' : Int → Bool} {b : Bool} {v : Int} (hX : ∀ u : Int, 0 ≤ u → u < (N.V : Int) → X' u = if u = v then (X v && b) else X u) (v0 : 0 ≤ v) (v1 : v < (N.V : Int)) (h : X v = true) (hb : b = false) : cnt N.V X' + 1 ≤ cnt N.V X := by
 refine cnt_lt (fun u u0 u1 hu => ?_) v0 v1 ?_ h
 · rw [hX u u0 u1] at hu
   by_cases e : u = v
   · rw [e]; exact h
   · rwa [if_neg e] at hu
 · rw [hX v v0 v1, if_pos rfl, h, hb]; rfl
theorem closed.congr {N : Net} (hN : N.ok) {f : Int → Int} {X Y : Int → Bool} (h : closed N f X) (e : ∀ u : Int, 0 ≤ u → u < (N.V : Int) → Y u = X u) : closed N f Y := by
 intro v v0 v1 hv
 rw [e v v0 v1] at hv
 exact (h v v0 v1 hv).mono (fun u u0 u1 hu => by rw [e u u0 u1]; exact hu) hN
theorem nodup_len {V : Nat} {p : List Int} (h : p.Nodup) (hp : ∀ x ∈ p, 0 ≤ x ∧ x < (V : Int)) : (p.length : Int) ≤ cnt V (fun v => decide (v ∈ p)) := by
 induction p with
 | nil => exact cnt_nonneg V _
 | cons x p ih =>
  have hn := List.nodup_cons.1 h
  have hx := hp x List.mem_cons_self
  have h1 := ih hn.2 (fun y hy => hp y (List.mem_cons_of_mem _ hy))
  have h2 := cnt_lt (V := V) (P := fun v => decide (v ∈ p)) (Q := fun v => decide (v ∈ x :: p)) (fun v _ _ hv => by
   rw [decide_eq_true_eq] at hv ⊢; exact List.mem_cons_of_mem _ hv) hx.1 hx.2 (decide_eq_false hn.1) (decide_eq_true List.mem_cons_self)
  rw [List.length_cons]
  omega
theorem nodup_le {V : Nat} {p : List Int} (h : p.Nodup) (hp : ∀ x ∈ p, 0 ≤ x ∧ x < (V : Int)) : p.length ≤ V := by
 have h1 := nodup_len h hp
 have h2 := cnt_le V (fun v => decide (v ∈ p))
 omega
def meets (N : Net) (p : List Int) (v : Int) : Bool := decide (v ∈ p.map N.a)
theorem rnd_set {N : Net} {f : Int → Int} {p : List Int} (h : Rnd N f p) : closed N f (meets N p) := by
 intro v v0 v1 hv
 obtain ⟨i, hi, e, g⟩ := h.goes v (of_decide_eq_true hv)
 obtain ⟨u, t⟩ := h.round
 have := t.mem i hi
 exact ⟨i, this.1, this.2, e, decide_eq_true g, h.flow i hi⟩
theorem rnd_set_turn {N : Net} {f : Int → Int} {p : List Int} (h : Rnd N f p) : closed N.turn f (meets N p) := by
 intro v v0 v1 hv
 obtain ⟨i, hi, e, g⟩ := h.turn_closed v (of_decide_eq_true hv)
 obtain ⟨u, t⟩ := h.round
 have := t.mem i hi
 exact ⟨i, this.1, this.2, e, decide_eq_true g, h.flow i hi⟩
theorem rnd_some {N : Net} {f : Int → Int} {p : List Int} (hN : N.ok) (h : Rnd N f p) : ∃ v : Int, 0 ≤ v ∧ v < (N.V : Int) ∧ meets N p v = true := by
 obtain ⟨u, t⟩ := h.round
 cases p with
 | nil => exact absurd rfl h.ne
 | cons l p =>
  have h1 := hN.h l t.1.1 t.1.2
  exact ⟨N.a l, h1.1.1, h1.1.2, decide_eq_true (by simp)⟩
theorem Trail.drop_rd {N : Net} {p : List Int} {u w : Int} (t : Trail N u p w) {k : Nat} (hk : k < p.length) : Trail N ((p.map N.a).getD k 0) (p.drop k) w := by
 have e : p = p.take k ++ p.drop k := (List.take_append_drop k p).symm
 rw [e] at t
 obtain ⟨x, _, t2⟩ := t.split
 have e2 : p.drop k = p[k] :: p.drop (k + 1) := List.drop_eq_getElem_cons hk
 rw [e2] at t2 ⊢
 have e3 : (p.map N.a).getD k 0 = N.a p[k] := by
  rw [List.getD_eq_getElem?_getD, List.getElem?_map, List.getElem?_eq_getElem hk]; rfl
 exact ⟨t2.1, e3.symm, t2.2.2⟩
theorem walk_cyc {N : Net} {f : Int → Int} {p : List Int} {u w : Int} (t : Trail N u p w) (hf : ∀ l ∈ p, 0 < f l) (hn : (p.map N.a).Nodup) {k : Nat} (hk : k < p.length) (e : (p.map N.a).getD k 0 = w) : Cyc N f (p.drop k) := by
 have t2 := t.drop_rd hk
 rw [e] at t2
 refine ⟨⟨fun h => ?_, ⟨w, t2⟩, fun l hl => hf l (List.mem_of_mem_drop hl)⟩, ?_⟩
 · have := congrArg List.length h
   simp at this; omega
 · rw [List.map_drop]
   exact hn.sublist (List.drop_sublist _ _)
def flows (m : Nat) (f : Int → Int) : Int := cnt m (fun i => decide (0 < f i))
theorem Cyc.less {N : Net} {f : Int → Int} {p : List Int} (h : Cyc N f p) {y : Int} (y0 : 0 < y) (hy : ∀ l ∈ p, y ≤ f l) (he : ∃ l ∈ p, f l = y) :
 (∀ v : Int, gain N (lessAll f y p) v = gain N f v) ∧ (∀ i : Int, (0 ≤ f i → 0 ≤ lessAll f y p i) ∧ lessAll f y p i ≤ f i) ∧ flows N.m (lessAll f y p) + 1 ≤ flows N.m f := by
 obtain ⟨u, t⟩ := h.round
 have hn := h.nodup
 refine ⟨fun v => ?_, fun i => ?_, ?_⟩
 · rw [gain_less p f t v]; omega
 · by_cases c : i ∈ p
   · rw [lessAll_in p f hn c]
     have := hy i c
     omega
   · rw [lessAll_out p f c]; omega
 · obtain ⟨l, hl, e⟩ := he
   have hm := t.mem l hl
   refine cnt_lt (fun i i0 i1 hi => ?_) hm.1 hm.2 ?_ (decide_eq_true (by omega))
   · rw [decide_eq_true_eq] at hi ⊢
     by_cases c : i ∈ p
     · exact h.flow i c
     · rwa [lessAll_out p f c] at hi
   · rw [decide_eq_false_iff_not, lessAll_in p f hn hl]; omega
structure IsLeast (z : Int) (xs : List Int) : Prop where
 mem : z ∈ xs
 le : ∀ y ∈ xs, z ≤ y
theorem S_prefix {f : Int → Int} {n m : Nat} (h : ∀ i : Int, 0 ≤ i → i < (m : Int) → 0 ≤ f i) (hn : n ≤ m) : S n f ≤ S m f := by
 induction m with
 | zero => obtain rfl : n = 0 := by omega
           exact Int.le_refl _
 | succ m ih =>
  by_cases e : n = m + 1
  · subst e; exact Int.le_refl _
  · have h1 := ih (fun i a b => h i a (by omega)) (by omega)
    have h2 := h (m : Int) (by omega) (by omega)
    simp only [S]
    omega
theorem rate_Is_eq (x : Int) : rate_Is.f x = some (decide (0 ≤ x ∧ x ≤ 4611686018427387904)) := by
 unfold rate_Is.f
 by_cases h : x ≥ 0
 · rw [if_pos h]; congr 1; simp; omega
 · rw [if_neg h]; congr 1; simp; omega
def SumOk (xs : List Int) : Prop := (∀ i : Int, 0 ≤ i → i < (xs.length : Int) → 0 ≤ rd xs i) ∧ S xs.length (rd xs) ≤ 4611686018427387904
theorem sum_loop (xs : List Int) (hx : xs.length ≤ 4611686018427387904) (d : Nat) : ∀ (i : Nat), i ≤ xs.length → xs.length - i = d → (∀ j : Int, 0 ≤ j → j < (i : Int) → 0 ≤ rd xs j) → S i (rd xs) ≤ 4611686018427387904 →
 Ev (fun k => rate_Sum.l0 k (S i (rd xs)) xs (xs.length : Int) (i : Int)) (if SumOk xs then (S xs.length (rd xs), true) else (0, false)) := by
 induction d with
 | zero =>
  intro i hi hd hp hs
  obtain rfl : i = xs.length := by omega
  refine Ev.step (fun k => by rw [rate_Sum.l0]) ?_
  refine Ev.ite_neg (by omega) ?_
  rw [if_pos ⟨hp, hs⟩]
  exact Ev.now _
 | succ d ih =>
  intro i hi hd hp hs
  have h0 : 0 ≤ S i (rd xs) := S_nonneg hp
  refine Ev.step (fun k => by rw [rate_Sum.l0]) ?_
  refine Ev.ite_pos (by omega) ?_
  refine Ev.ite_pos (by omega) ?_
  refine Ev.ite_pos (by omega) ?_
  refine Ev.call (rate_Is_eq _) ?_
  by_cases hr : 0 ≤ rd xs i ∧ rd xs i ≤ 4611686018427387904
  · refine Ev.ite_pos (decide_eq_true hr) ?_
    by_cases hm : rd xs i > 4611686018427387904 - S i (rd xs)
    · refine Ev.ite_pos (by rw [wrap_id (by omega) (by omega)]; exact hm) ?_
      rw [if_neg]
      · exact Ev.now _
      · intro ho
        have := S_prefix (n := i + 1) ho.1 (by omega)
        simp only [S] at this
        have := ho.2
        omega
    · refine Ev.ite_neg (by rw [wrap_id (by omega) (by omega)]; exact hm) ?_
      have e2 : wrap64 (S i (rd xs) + rd xs i) = S (i + 1) (rd xs) := by rw [wrap_id (by omega) (by omega)]; rfl
      have e3 : wrap64 ((i : Int) + 1) = ((i + 1 : Nat) : Int) := wrap_succ (by omega)
      refine Ev.congr (fun k => by rw [e2, e3]) (ih (i + 1) (by omega) (by omega) ?_ ?_)
      · intro j a b
        by_cases e : j = i
        · subst e; exact hr.1
        · exact hp j a (by omega)
      · simp only [S]; omega
  · refine Ev.ite_neg (by simp only [decide_eq_true_eq]; exact hr) ?_
    rw [if_neg]
    · exact Ev.now _
    · intro ho
      have h1 := ho.1 i (by omega) (by omega)
      have := S_one_le ho.1 (k := (i : Int)) (by omega) (by omega)
      have := ho.2
      exact hr ⟨h1, by omega⟩
theorem rate_Sum_ev (xs : List Int) (hx : xs.length ≤ 4611686018427387904) : Ev (fun k => rate_Sum.f k xs) (if SumOk xs then (S xs.length (rd xs), true) else (0, false)) :=
 sum_loop xs hx xs.length 0 (by omega) (by omega) (fun j a b => by omega) (by simp [S])
def lA (ls : List S53) (i : Int) : Int := (rd_T53 ls i).f0
def lB (ls : List S53) (i : Int) : Int := (rd_T53 ls i).f1
def lC (ls : List S53) (i : Int) : Int := (rd_T53 ls i).f2
def net (V : Int) (ls : List S53) : Net := { V := V.toNat, m := ls.length, a := lA ls, b := lB ls }
structure GOk (V : Int) (ls : List S53) : Prop where
 v2 : 2 ≤ V
 v8 : V ≤ 8
 m16 : ls.length ≤ 16
 ends : (net V ls).ok
 cap : ∀ i : Int, 0 ≤ i → i < (ls.length : Int) → 0 ≤ lC ls i
 sum : S ls.length (lC ls) ≤ 4611686018427387904
theorem net_V {V : Int} {ls : List S53} (h : 0 ≤ V) : ((net V ls).V : Int) = V := by simp only [net]; omega
theorem net_m {V : Int} {ls : List S53} : (net V ls).m = ls.length := rfl
theorem GOk.end_ {V : Int} {ls : List S53} (h : GOk V ls) {i : Int} (h0 : 0 ≤ i) (h1 : i < (ls.length : Int)) : (0 ≤ lA ls i ∧ lA ls i < V) ∧ (0 ≤ lB ls i ∧ lB ls i < V) ∧ lA ls i ≠ lB ls i := by
 have := h.ends.h i h0 h1
 have e := net_V (V := V) (ls := ls) (by have := h.v2; omega)
 rw [e] at this
 exact this
theorem GOk.cap_le {V : Int} {ls : List S53} (h : GOk V ls) {i : Int} (h0 : 0 ≤ i) (h1 : i < (ls.length : Int)) : lC ls i ≤ 4611686018427387904 := by
 have := S_one_le h.cap h0 h1
 have := h.sum
 omega
theorem rd_map_cap (ls : List S53) {i : Int} (h0 : 0 ≤ i) (h1 : i < (ls.length : Int)) : rd (ls.map (·.f2)) i = lC ls i := by
 unfold rd lC rd_T53
 have hl : i.toNat < ls.length := by omega
 simp only [List.getD_eq_getElem?_getD, List.getElem?_map, List.getElem?_eq_getElem hl]
 rfl
theorem caps_loop (V : Int) (ls : List S53) (hx : ls.length ≤ 17592186044416) (d : Nat) : ∀ (i : Nat), i ≤ ls.length → ls.length - i = d →
 Ev (fun k => graph_Caps.l0 k ((ls.take i).map (·.f2)) ls (ls.length : Int) (i : Int)) (ls.map (·.f2)) := by
 induction d with
 | zero =>
  intro i hi hd
  obtain rfl : i = ls.length := by omega
  refine Ev.step (fun k => by rw [graph_Caps.l0]) ?_
  refine Ev.ite_neg (by omega) ?_
  rw [List.take_length]
  exact Ev.now _
 | succ d ih =>
  intro i hi hd
  refine Ev.step (fun k => by rw [graph_Caps.l0]) ?_
  refine Ev.ite_pos (by omega) ?_
  refine Ev.ite_pos (by omega) ?_
  refine Ev.ite_pos (by omega) ?_
  refine Ev.ite_pos (by simp; omega) ?_
  have e3 : wrap64 ((i : Int) + 1) = ((i + 1 : Nat) : Int) := wrap_succ (by omega)
  have e4 : (ls.take i).map (·.f2) ++ [(rd_T53 ls (i : Int)).f2] = (ls.take (i + 1)).map (·.f2) := by
   have hl : i < ls.length := by omega
   rw [List.take_succ_eq_append_getElem hl, List.map_append]
   simp only [rd_T53, Int.toNat_natCast, List.getD_eq_getElem?_getD, List.getElem?_eq_getElem hl]
   rfl
  exact Ev.congr (fun k => by rw [e3, e4]) (ih (i + 1) (by omega) (by omega))
theorem graph_Caps_ev (V : Int) (ls : List S53) (hx : ls.length ≤ 17592186044416) : Ev (fun k => graph_Caps.f k V ls) (ls.map (·.f2)) :=
 caps_loop V ls hx ls.length 0 (by omega) (by omega)
theorem graph_Has_eq (V : Int) (ls : List S53) (v : Int) : graph_Has.f V ls v = some (decide (0 ≤ v ∧ v < V)) := by
 unfold graph_Has.f
 by_cases h : v ≥ 0
 · rw [if_pos h]; congr 1; simp; omega
 · rw [if_neg h]; congr 1; simp; omega
theorem ref_Vertex_eq (V : Int) (ls : List S53) (v : Int) : tollbarref4_Vertex.f V ls v = some (decide (0 ≤ v ∧ v < V)) := by
 unfold tollbarref4_Vertex.f
 by_cases h : v ≥ 0
 · rw [if_pos h]; congr 1; simp; omega
 · rw [if_neg h]; congr 1; simp; omega
theorem caps_sum (ls : List S53) : SumOk (ls.map (·.f2)) ↔ (∀ i : Int, 0 ≤ i → i < (ls.length : Int) → 0 ≤ lC ls i) ∧ S ls.length (lC ls) ≤ 4611686018427387904 := by
 have e : S (ls.map (·.f2)).length (rd (ls.map (·.f2))) = S ls.length (lC ls) := by
  rw [List.length_map]
  exact S_congr (fun i a b => rd_map_cap ls a b)
 unfold SumOk
 rw [e, List.length_map]
 constructor
 · rintro ⟨h1, h2⟩
   exact ⟨fun i a b => by rw [← rd_map_cap ls a b]; exact h1 i a b, h2⟩
 · rintro ⟨h1, h2⟩
   exact ⟨fun i a b => by rw [rd_map_cap ls a b]; exact h1 i a b, h2⟩
def LinkOk (V : Int) (ls : List S53) (i : Int) : Prop := (0 ≤ lA ls i ∧ lA ls i < V) ∧ (0 ≤ lB ls i ∧ lB ls i < V) ∧ lA ls i ≠ lB ls i
theorem gok_iff (V : Int) (ls : List S53) : GOk V ls ↔ 2 ≤ V ∧ V ≤ 8 ∧ ls.length ≤ 16 ∧ (∀ i : Int, 0 ≤ i → i < (ls.length : Int) → LinkOk V ls i) ∧ (∀ i : Int, 0 ≤ i → i < (ls.length : Int) → 0 ≤ lC ls i) ∧ S ls.length (lC ls) ≤ 4611686018427387904 := by
 constructor
 · intro h
   exact ⟨h.v2, h.v8, h.m16, fun i a b => h.end_ a b, h.cap, h.sum⟩
 · rintro ⟨h1, h2, h3, h4, h5, h6⟩
   refine ⟨h1, h2, h3, ⟨fun i a b => ?_⟩, h5, h6⟩
   rw [net_V (by omega)]
   exact h4 i a b
theorem may_loop (V : Int) (ls : List S53) (hv : 2 ≤ V ∧ V ≤ 8) (hm : ls.length ≤ 16) (d : Nat) : ∀ (i : Nat), i ≤ ls.length → ls.length - i = d → (∀ j : Int, 0 ≤ j → j < (i : Int) → LinkOk V ls j) →
 Ev (fun k => graph_May.l0 k ls (ls.length : Int) (i : Int) V ls) (decide (GOk V ls)) := by
 induction d with
 | zero =>
  intro i hi hd hp
  obtain rfl : i = ls.length := by omega
  refine Ev.step (fun k => by rw [graph_May.l0]) ?_
  refine Ev.ite_neg (by omega) ?_
  refine Ev.bind (graph_Caps_ev V ls (by omega)) ?_
  refine Ev.bind (rate_Sum_ev _ (by rw [List.length_map]; omega)) ?_
  have : (if SumOk (ls.map (·.f2)) then (S (ls.map (·.f2)).length (rd (ls.map (·.f2))), true) else ((0 : Int), false)).2 = decide (GOk V ls) := by
   by_cases hs : SumOk (ls.map (·.f2))
   · rw [if_pos hs, decide_eq_true]
     rw [gok_iff]
     have := (caps_sum ls).1 hs
     exact ⟨hv.1, hv.2, hm, hp, this.1, this.2⟩
   · rw [if_neg hs, decide_eq_false]
     rw [gok_iff]
     rintro ⟨_, _, _, _, h5, h6⟩
     exact hs ((caps_sum ls).2 ⟨h5, h6⟩)
  rw [this]
  exact Ev.now _
 | succ d ih =>
  intro i hi hd hp
  have no : ¬ LinkOk V ls i → ¬ GOk V ls := fun h g => h (((gok_iff V ls).1 g).2.2.2.1 i (by omega) (by omega))
  refine Ev.step (fun k => by rw [graph_May.l0]) ?_
  refine Ev.ite_pos (by omega) ?_
  refine Ev.ite_pos (by omega) ?_
  refine Ev.ite_pos (by omega) ?_
  refine Ev.call (graph_Has_eq _ _ _) ?_
  by_cases ha : 0 ≤ lA ls i ∧ lA ls i < V
  · refine Ev.ite_pos (decide_eq_true ha) ?_
    refine Ev.call (graph_Has_eq _ _ _) ?_
    by_cases hb : 0 ≤ lB ls i ∧ lB ls i < V
    · refine Ev.ite_pos (decide_eq_true hb) ?_
      by_cases he : lA ls i = lB ls i
      · refine Ev.ite_pos he ?_
        rw [decide_eq_false (no (fun h => h.2.2 he))]
        exact Ev.now _
      · refine Ev.ite_neg he ?_
        have e3 : wrap64 ((i : Int) + 1) = ((i + 1 : Nat) : Int) := wrap_succ (by omega)
        refine Ev.congr (fun k => by rw [e3]) (ih (i + 1) (by omega) (by omega) ?_)
        intro j a b
        by_cases e : j = i
        · subst e; exact ⟨ha, hb, he⟩
        · exact hp j a (by omega)
    · refine Ev.ite_neg (by simp only [decide_eq_true_eq]; exact hb) ?_
      rw [decide_eq_false (no (fun h => hb h.2.1))]
      exact Ev.now _
  · refine Ev.ite_neg (by simp only [decide_eq_true_eq]; exact ha) ?_
    rw [decide_eq_false (no (fun h => ha h.1))]
    exact Ev.now _
theorem graph_May_ev (V : Int) (ls : List S53) : Ev (fun k => graph_May.f k V ls) (decide (GOk V ls)) := by
 have no : ¬ (2 ≤ V ∧ V ≤ 8 ∧ ls.length ≤ 16) → Ev (fun k => graph_May.j0 k true V ls) (decide (GOk V ls)) := by
  intro h
  rw [decide_eq_false (fun g => h ⟨g.v2, g.v8, g.m16⟩)]
  refine Ev.step (fun k => by rw [graph_May.j0]) ?_
  exact Ev.ite_pos rfl (Ev.now _)
 unfold graph_May.f
 by_cases h1 : V < 2
 · exact Ev.ite_pos h1 (no (by omega))
 · refine Ev.ite_neg h1 ?_
   by_cases h2 : V > 8
   · exact Ev.ite_pos h2 (no (by omega))
   · refine Ev.ite_neg h2 ?_
     by_cases h3 : (ls.length : Int) > 16
     · rw [decide_eq_true h3]; exact no (by omega)
     · rw [decide_eq_false h3]
       refine Ev.step (fun k => by rw [graph_May.j0]) ?_
       refine Ev.ite_neg (by simp) ?_
       exact may_loop V ls (by omega) (by omega) ls.length 0 (by omega) (by omega) (fun j a b => by omega)
theorem refmay_loop (V : Int) (ls : List S53) (hv : 2 ≤ V ∧ V ≤ 8) (hm : ls.length ≤ 16) (d : Nat) : ∀ (i : Nat), i ≤ ls.length → ls.length - i = d → (∀ j : Int, 0 ≤ j → j < (i : Int) → LinkOk V ls j ∧ 0 ≤ lC ls j) → S i (lC ls) ≤ 4611686018427387904 →
 Ev (fun k => tollbarref4_GraphMay.l0 k (S i (lC ls)) (i : Int) V ls) (decide (GOk V ls)) := by
 induction d with
 | zero =>
  intro i hi hd hp hs
  obtain rfl : i = ls.length := by omega
  refine Ev.step (fun k => by rw [tollbarref4_GraphMay.l0]) ?_
  refine Ev.ite_neg (by omega) ?_
  rw [decide_eq_true ((gok_iff V ls).2 ⟨hv.1, hv.2, hm, fun j a b => (hp j a b).1, fun j a b => (hp j a b).2, hs⟩)]
  exact Ev.now _
 | succ d ih =>
  intro i hi hd hp hs
  have h0 : 0 ≤ S i (lC ls) := S_nonneg (fun j a b => (hp j a b).2)
  have no : ¬ LinkOk V ls i → ¬ GOk V ls := fun h g => h (((gok_iff V ls).1 g).2.2.2.1 i (by omega) (by omega))
  refine Ev.step (fun k => by rw [tollbarref4_GraphMay.l0]) ?_
  refine Ev.ite_pos (by omega) ?_
  refine Ev.ite_pos (by omega) ?_
  refine Ev.call (ref_Vertex_eq _ _ _) ?_
  by_cases ha : 0 ≤ lA ls i ∧ lA ls i < V
  · refine Ev.ite_pos (decide_eq_true ha) ?_
    refine Ev.call (ref_Vertex_eq _ _ _) ?_
    by_cases hb : 0 ≤ lB ls i ∧ lB ls i < V
    · refine Ev.ite_pos (decide_eq_true hb) ?_
      by_cases he : lA ls i = lB ls i
      · refine Ev.ite_pos he ?_
        rw [decide_eq_false (no (fun h => h.2.2 he))]
        exact Ev.now _
      · refine Ev.ite_neg he ?_
        by_cases hc : lC ls i < 0
        · refine Ev.ite_pos hc ?_
          rw [decide_eq_false (fun g => by have := g.cap i (by omega) (by omega); omega)]
          exact Ev.now _
        · refine Ev.ite_neg hc ?_
          by_cases hm2 : lC ls i > 4611686018427387904 - S i (lC ls)
          · refine Ev.ite_pos (by rw [wrap_id (by omega) (by omega)]; exact hm2) ?_
            rw [decide_eq_false (fun g => by
             have := S_prefix (n := i + 1) g.cap (by omega)
             simp only [S] at this
             have := g.sum
             omega)]
            exact Ev.now _
          · refine Ev.ite_neg (by rw [wrap_id (by omega) (by omega)]; exact hm2) ?_
            have X := ih (i + 1) (by omega) (by omega) (fun j a b => by
             by_cases e : j = i
             · subst e; exact ⟨⟨ha, hb, he⟩, by omega⟩
             · exact hp j a (by omega)) (by simp only [S]; omega)
            have e2 : wrap64 (S i (lC ls) + lC ls i) = S (i + 1) (lC ls) := by rw [wrap_id (by omega) (by omega)]; rfl
            have e3 : wrap64 ((i : Int) + 1) = ((i + 1 : Nat) : Int) := wrap_succ (by omega)
            exact Ev.congr (fun k => by rw [← e2, ← e3]; rfl) X
    · refine Ev.ite_neg (by simp only [decide_eq_true_eq]; exact hb) ?_
      rw [decide_eq_false (no (fun h => hb h.2.1))]
      exact Ev.now _
  · refine Ev.ite_neg (by simp only [decide_eq_true_eq]; exact ha) ?_
    rw [decide_eq_false (no (fun h => ha h.1))]
    exact Ev.now _
theorem ref_GraphMay_ev (V : Int) (ls : List S53) : Ev (fun k => tollbarref4_GraphMay.f k V ls) (decide (GOk V ls)) := by
 have no : ¬ (2 ≤ V ∧ V ≤ 8 ∧ ls.length ≤ 16) → Ev (fun k => tollbarref4_GraphMay.j0 k true V ls) (decide (GOk V ls)) := by
  intro h
  rw [decide_eq_false (fun g => h ⟨g.v2, g.v8, g.m16⟩)]
  refine Ev.step (fun k => by rw [tollbarref4_GraphMay.j0]) ?_
  exact Ev.ite_pos rfl (Ev.now _)
 unfold tollbarref4_GraphMay.f
 by_cases h1 : V < 2
 · exact Ev.ite_pos h1 (no (by omega))
 · refine Ev.ite_neg h1 ?_
   by_cases h2 : V > 8
   · exact Ev.ite_pos h2 (no (by omega))
   · refine Ev.ite_neg h2 ?_
     by_cases h3 : (ls.length : Int) > 16
     · rw [decide_eq_true h3]; exact no (by omega)
     · rw [decide_eq_false h3]
       refine Ev.step (fun k => by rw [tollbarref4_GraphMay.j0]) ?_
       refine Ev.ite_neg (by simp) ?_
       exact refmay_loop V ls (by omega) (by omega) ls.length 0 (by omega) (by omega) (fun j a b => by omega) (by simp [S])
structure CapsOk (V : Int) (ls : List S53) (caps : List Int) : Prop where
 g : GOk V ls
 len : caps.length = ls.length
 le : ∀ i : Int, 0 ≤ i → i < (caps.length : Int) → 0 ≤ rd caps i ∧ rd caps i ≤ lC ls i
structure Win (caps f : List Int) : Prop where
 len : f.length = caps.length
 le : ∀ i : Int, 0 ≤ i → i < (f.length : Int) → 0 ≤ rd f i ∧ rd f i ≤ rd caps i
theorem takes_loop (V : Int) (ls : List S53) (caps : List Int) (hg : GOk V ls) (hl : caps.length = ls.length) (d : Nat) : ∀ (i : Nat), i ≤ caps.length → caps.length - i = d → (∀ j : Int, 0 ≤ j → j < (i : Int) → 0 ≤ rd caps j ∧ rd caps j ≤ lC ls j) →
 Ev (fun k => graph_Takes.l0 k caps (caps.length : Int) (i : Int) V ls) (decide (CapsOk V ls caps)) := by
 induction d with
 | zero =>
  intro i hi hd hp
  obtain rfl : i = caps.length := by omega
  refine Ev.step (fun k => by rw [graph_Takes.l0]) ?_
  refine Ev.ite_neg (by omega) ?_
  rw [decide_eq_true (⟨hg, hl, hp⟩ : CapsOk V ls caps)]
  exact Ev.now _
 | succ d ih =>
  intro i hi hd hp
  have hm := hg.m16
  refine Ev.step (fun k => by rw [graph_Takes.l0]) ?_
  refine Ev.ite_pos (by omega) ?_
  refine Ev.ite_pos (by omega) ?_
  refine Ev.ite_pos (by omega) ?_
  by_cases h1 : rd caps i < 0
  · refine Ev.ite_pos h1 ?_
    rw [decide_eq_false (fun h : CapsOk V ls caps => by have := h.le i (by omega) (by omega); omega)]
    exact Ev.now _
  · refine Ev.ite_neg h1 ?_
    refine Ev.ite_pos (by omega) ?_
    by_cases h2 : rd caps i > lC ls i
    · refine Ev.ite_pos h2 ?_
      rw [decide_eq_false (fun h : CapsOk V ls caps => by have := h.le i (by omega) (by omega); omega)]
      exact Ev.now _
    · refine Ev.ite_neg h2 ?_
      have X := ih (i + 1) (by omega) (by omega) (fun j a b => by
       by_cases e : j = i
       · subst e; omega
       · exact hp j a (by omega))
      have e3 : wrap64 ((i : Int) + 1) = ((i + 1 : Nat) : Int) := wrap_succ (by omega)
      exact Ev.congr (fun k => by rw [e3]) X
theorem graph_Takes_ev (V : Int) (ls : List S53) (caps : List Int) : Ev (fun k => graph_Takes.f k V ls caps) (decide (CapsOk V ls caps)) := by
 have no : ¬ CapsOk V ls caps → Ev (fun k => graph_Takes.j0 k caps true V ls) (decide (CapsOk V ls caps)) := by
  intro h
  rw [decide_eq_false h]
  refine Ev.step (fun k => by rw [graph_Takes.j0]) ?_
  exact Ev.ite_pos rfl (Ev.now _)
 unfold graph_Takes.f
 refine Ev.bind (graph_May_ev V ls) ?_
 by_cases h : GOk V ls
 · refine Ev.ite_pos (decide_eq_true h) ?_
   by_cases hl : caps.length = ls.length
   · have e : ((caps.length : Int) != (ls.length : Int)) = false := by simp [hl]
     rw [e]
     refine Ev.step (fun k => by rw [graph_Takes.j0]) ?_
     refine Ev.ite_neg (by simp) ?_
     exact takes_loop V ls caps h hl caps.length 0 (by omega) (by omega) (fun j a b => by omega)
   · have e : ((caps.length : Int) != (ls.length : Int)) = true := by simp; omega
     rw [e]
     exact no (fun g => hl g.len)
 · refine Ev.ite_neg (by simp only [decide_eq_true_eq]; exact h) ?_
   exact no (fun g => h g.g)
theorem capsmay_loop (V : Int) (ls : List S53) (caps : List Int) (hg : GOk V ls) (hl : caps.length = ls.length) (d : Nat) : ∀ (i : Nat), i ≤ caps.length → caps.length - i = d → (∀ j : Int, 0 ≤ j → j < (i : Int) → 0 ≤ rd caps j ∧ rd caps j ≤ lC ls j) →
 Ev (fun k => tollbarref4_CapsMay.l0 k caps (i : Int) V ls) (decide (CapsOk V ls caps)) := by
 induction d with
 | zero =>
  intro i hi hd hp
  obtain rfl : i = caps.length := by omega
  refine Ev.step (fun k => by rw [tollbarref4_CapsMay.l0]) ?_
  refine Ev.ite_neg (by omega) ?_
  rw [decide_eq_true (⟨hg, hl, hp⟩ : CapsOk V ls caps)]
  exact Ev.now _
 | succ d ih =>
  intro i hi hd hp
  have hm := hg.m16
  refine Ev.step (fun k => by rw [tollbarref4_CapsMay.l0]) ?_
  refine Ev.ite_pos (by omega) ?_
  refine Ev.ite_pos (by omega) ?_
  by_cases h1 : rd caps i < 0
  · refine Ev.ite_pos h1 ?_
    rw [decide_eq_false (fun h : CapsOk V ls caps => by have := h.le i (by omega) (by omega); omega)]
    exact Ev.now _
  · refine Ev.ite_neg h1 ?_
    refine Ev.ite_pos (by omega) ?_
    by_cases h2 : rd caps i > lC ls i
    · refine Ev.ite_pos h2 ?_
      rw [decide_eq_false (fun h : CapsOk V ls caps => by have := h.le i (by omega) (by omega); omega)]
      exact Ev.now _
    · refine Ev.ite_neg h2 ?_
      have X := ih (i + 1) (by omega) (by omega) (fun j a b => by
       by_cases e : j = i
       · subst e; omega
       · exact hp j a (by omega))
      have e3 : wrap64 ((i : Int) + 1) = ((i + 1 : Nat) : Int) := wrap_succ (by omega)
      exact Ev.congr (fun k => by rw [e3]) X
theorem ref_CapsMay_ev (V : Int) (ls : List S53) (caps : List Int) : Ev (fun k => tollbarref4_CapsMay.f k V ls caps) (decide (CapsOk V ls caps)) := by
 have no : ¬ CapsOk V ls caps → Ev (fun k => tollbarref4_CapsMay.j0 k caps true V ls) (decide (CapsOk V ls caps)) := by
  intro h
  rw [decide_eq_false h]
  refine Ev.step (fun k => by rw [tollbarref4_CapsMay.j0]) ?_
  exact Ev.ite_pos rfl (Ev.now _)
 unfold tollbarref4_CapsMay.f
 refine Ev.bind (ref_GraphMay_ev V ls) ?_
 by_cases h : GOk V ls
 · refine Ev.ite_pos (decide_eq_true h) ?_
   by_cases hl : caps.length = ls.length
   · have e : ((caps.length : Int) != (ls.length : Int)) = false := by simp [hl]
     rw [e]
     refine Ev.step (fun k => by rw [tollbarref4_CapsMay.j0]) ?_
     refine Ev.ite_neg (by simp) ?_
     exact capsmay_loop V ls caps h hl caps.length 0 (by omega) (by omega) (fun j a b => by omega)
   · have e : ((caps.length : Int) != (ls.length : Int)) = true := by simp; omega
     rw [e]
     exact no (fun g => hl g.len)
 · refine Ev.ite_neg (by simp only [decide_eq_true_eq]; exact h) ?_
   exact no (fun g => h g.g)
theorem within_loop (caps f : List Int) (hl : f.length = caps.length) (hx : f.length ≤ 17592186044416) (d : Nat) : ∀ (i : Nat), i ≤ f.length → f.length - i = d → (∀ j : Int, 0 ≤ j → j < (i : Int) → 0 ≤ rd f j ∧ rd f j ≤ rd caps j) →
 Ev (fun k => tollbarref4_Within.l0 k caps f (i : Int)) (decide (Win caps f)) := by
 induction d with
 | zero =>
  intro i hi hd hp
  obtain rfl : i = f.length := by omega
  refine Ev.step (fun k => by rw [tollbarref4_Within.l0]) ?_
  refine Ev.ite_neg (by omega) ?_
  rw [decide_eq_true (⟨hl, hp⟩ : Win caps f)]
  exact Ev.now _
 | succ d ih =>
  intro i hi hd hp
  refine Ev.step (fun k => by rw [tollbarref4_Within.l0]) ?_
  refine Ev.ite_pos (by omega) ?_
  refine Ev.ite_pos (by omega) ?_
  by_cases h1 : rd f i < 0
  · refine Ev.ite_pos h1 ?_
    rw [decide_eq_false (fun h : Win caps f => by have := h.le i (by omega) (by omega); omega)]
    exact Ev.now _
  · refine Ev.ite_neg h1 ?_
    refine Ev.ite_pos (by omega) ?_
    by_cases h2 : rd f i > rd caps i
    · refine Ev.ite_pos h2 ?_
      rw [decide_eq_false (fun h : Win caps f => by have := h.le i (by omega) (by omega); omega)]
      exact Ev.now _
    · refine Ev.ite_neg h2 ?_
      have X := ih (i + 1) (by omega) (by omega) (fun j a b => by
       by_cases e : j = i
       · subst e; omega
       · exact hp j a (by omega))
      have e3 : wrap64 ((i : Int) + 1) = ((i + 1 : Nat) : Int) := wrap_succ (by omega)
      exact Ev.congr (fun k => by rw [e3]) X
theorem ref_Within_ev (caps f : List Int) (hx : f.length ≤ 17592186044416) : Ev (fun k => tollbarref4_Within.f k caps f) (decide (Win caps f)) := by
 unfold tollbarref4_Within.f
 by_cases hl : f.length = caps.length
 · refine Ev.ite_pos (by omega) ?_
   exact within_loop caps f hl hx f.length 0 (by omega) (by omega) (fun j a b => by omega)
 · refine Ev.ite_neg (by omega) ?_
   rw [decide_eq_false (fun h : Win caps f => hl h.len)]
   exact Ev.now _
theorem lies_loop (caps f : List Int) (hl : f.length = caps.length) (hx : f.length ≤ 17592186044416) (d : Nat) : ∀ (i : Nat), i ≤ f.length → f.length - i = d → (∀ j : Int, 0 ≤ j → j < (i : Int) → 0 ≤ rd f j ∧ rd f j ≤ rd caps j) →
 Ev (fun k => stream_Lies.l0 k caps f (f.length : Int) (i : Int)) (decide (Win caps f)) := by
 induction d with
 | zero =>
  intro i hi hd hp
  obtain rfl : i = f.length := by omega
  refine Ev.step (fun k => by rw [stream_Lies.l0]) ?_
  refine Ev.ite_neg (by omega) ?_
  rw [decide_eq_true (⟨hl, hp⟩ : Win caps f)]
  exact Ev.now _
 | succ d ih =>
  intro i hi hd hp
  refine Ev.step (fun k => by rw [stream_Lies.l0]) ?_
  refine Ev.ite_pos (by omega) ?_
  refine Ev.ite_pos (by omega) ?_
  refine Ev.ite_pos (by omega) ?_
  by_cases h1 : rd f i < 0
  · refine Ev.ite_pos h1 ?_
    rw [decide_eq_false (fun h : Win caps f => by have := h.le i (by omega) (by omega); omega)]
    exact Ev.now _
  · refine Ev.ite_neg h1 ?_
    refine Ev.ite_pos (by omega) ?_
    by_cases h2 : rd f i > rd caps i
    · refine Ev.ite_pos h2 ?_
      rw [decide_eq_false (fun h : Win caps f => by have := h.le i (by omega) (by omega); omega)]
      exact Ev.now _
    · refine Ev.ite_neg h2 ?_
      have X := ih (i + 1) (by omega) (by omega) (fun j a b => by
       by_cases e : j = i
       · subst e; omega
       · exact hp j a (by omega))
      have e3 : wrap64 ((i : Int) + 1) = ((i + 1 : Nat) : Int) := wrap_succ (by omega)
      exact Ev.congr (fun k => by rw [e3]) X
theorem stream_Lies_ev (V : Int) (ls : List S53) (caps f : List Int) : Ev (fun k => stream_Lies.f k V ls caps f) (decide (CapsOk V ls caps ∧ Win caps f)) := by
 have no : ¬ (CapsOk V ls caps ∧ Win caps f) → Ev (fun k => stream_Lies.j0 k caps f true) (decide (CapsOk V ls caps ∧ Win caps f)) := by
  intro h
  rw [decide_eq_false h]
  refine Ev.step (fun k => by rw [stream_Lies.j0]) ?_
  exact Ev.ite_pos rfl (Ev.now _)
 unfold stream_Lies.f
 refine Ev.bind (graph_Takes_ev V ls caps) ?_
 by_cases h : CapsOk V ls caps
 · refine Ev.ite_pos (decide_eq_true h) ?_
   by_cases hl : f.length = caps.length
   · have e : ((f.length : Int) != (caps.length : Int)) = false := by simp [hl]
     rw [e]
     refine Ev.step (fun k => by rw [stream_Lies.j0]) ?_
     refine Ev.ite_neg (by simp) ?_
     have e2 : (CapsOk V ls caps ∧ Win caps f) = Win caps f := by simp [h]
     simp only [e2]
     exact lies_loop caps f hl (by have := h.g.m16; have := h.len; omega) f.length 0 (by omega) (by omega) (fun j a b => by omega)
   · have e : ((f.length : Int) != (caps.length : Int)) = true := by simp; omega
     rw [e]
     exact no (fun g => hl g.2.len)
 · refine Ev.ite_neg (by simp only [decide_eq_true_eq]; exact h) ?_
   exact no (fun g => h g.1)
def gainTo (N : Net) (f : Int → Int) (v : Int) (n : Nat) : Int := S n (fun i => (if N.a i = v then f i else 0) - (if N.b i = v then f i else 0))
theorem S_abs {n : Nat} {f g : Int → Int} (h : ∀ i : Int, 0 ≤ i → i < (n : Int) → -(g i) ≤ f i ∧ f i ≤ g i) : -(S n g) ≤ S n f ∧ S n f ≤ S n g := by
 induction n with
 | zero => simp [S]
 | succ n ih =>
  have h1 := ih (fun i a b => h i a (by omega))
  have h2 := h n (by omega) (by omega)
  simp only [S]
  omega
structure Fine (V : Int) (ls : List S53) (f : List Int) : Prop where
 g : GOk V ls
 len : f.length = ls.length
 le : ∀ i : Int, 0 ≤ i → i < (ls.length : Int) → 0 ≤ rd f i ∧ rd f i ≤ lC ls i
theorem Fine.of {V : Int} {ls : List S53} {caps f : List Int} (h : CapsOk V ls caps) (w : Win caps f) : Fine V ls f :=
 ⟨h.g, by rw [w.len, h.len], fun i a b => by
  have h1 := w.le i a (by rw [w.len, h.len]; exact b)
  have h2 := h.le i a (by rw [h.len]; exact b)
  omega⟩
theorem Fine.sum_le {V : Int} {ls : List S53} {f : List Int} (h : Fine V ls f) {n : Nat} (hn : n ≤ ls.length) : 0 ≤ S n (rd f) ∧ S n (rd f) ≤ 4611686018427387904 := by
 have h1 : S n (rd f) ≤ S ls.length (rd f) := S_prefix (fun i a b => (h.le i a b).1) hn
 have h2 : S ls.length (rd f) ≤ S ls.length (lC ls) := S_le (fun i a b => (h.le i a b).2)
 have h3 := h.g.sum
 have h4 : 0 ≤ S n (rd f) := S_nonneg (fun i a b => (h.le i a (by omega)).1)
 omega
theorem Fine.gain_bound {V : Int} {ls : List S53} {f : List Int} (h : Fine V ls f) (v : Int) {n : Nat} (hn : n ≤ ls.length) :
 -4611686018427387904 ≤ gainTo (net V ls) (rd f) v n ∧ gainTo (net V ls) (rd f) v n ≤ 4611686018427387904 := by
 have h1 := h.sum_le hn
 have h2 := S_abs (n := n) (f := fun i => (if (net V ls).a i = v then rd f i else 0) - (if (net V ls).b i = v then rd f i else 0)) (g := rd f) (fun i a b => by
  have h3 := h.le i a (by omega)
  have h4 := h.g.end_ (i := i) a (by omega)
  have h5 : ¬ ((net V ls).a i = v ∧ (net V ls).b i = v) := fun e => h4.2.2 (e.1.trans e.2.symm)
  by_cases ea : (net V ls).a i = v
  · have eb : ¬ (net V ls).b i = v := fun e => h5 ⟨ea, e⟩
    rw [if_pos ea, if_neg eb]; omega
  · rw [if_neg ea]
    by_cases eb : (net V ls).b i = v
    · rw [if_pos eb]; omega
    · rw [if_neg eb]; omega)
 unfold gainTo
 omega
theorem gains_loop (V : Int) (ls : List S53) (f : List Int) (h : Fine V ls f) (d : Nat) : ∀ (i : Nat), i ≤ ls.length → ls.length - i = d →
 Ev (fun k => stream_gains.l0 k f (tab V.toNat (fun v => gainTo (net V ls) (rd f) v i)) ls (ls.length : Int) (i : Int)) (tab V.toNat (gain (net V ls) (rd f))) := by
 induction d with
 | zero =>
  intro i hi hd
  obtain rfl : i = ls.length := by omega
  refine Ev.step (fun k => by rw [stream_gains.l0]) ?_
  refine Ev.ite_neg (by omega) ?_
  exact Ev.now _
 | succ d ih =>
  intro i hi hd
  have X := ih (i + 1) (by omega) (by omega)
  have hv := h.g.v8
  have hm := h.g.m16
  obtain ⟨⟨a0, a1⟩, ⟨b0, b1⟩, hab⟩ := h.g.end_ (i := (i : Int)) (by omega) (by omega)
  have hl : (tab V.toNat (fun v => gainTo (net V ls) (rd f) v i)).length = V.toNat := tab_len _ _
  refine Ev.step (fun k => by rw [stream_gains.l0]) ?_
  refine Ev.ite_pos (by omega) ?_
  refine Ev.ite_pos (by omega) ?_
  refine Ev.ite_pos (by omega) ?_
  refine Ev.ite_pos a0 ?_
  refine Ev.ite_pos (by show lA ls i < _; rw [hl]; omega) ?_
  refine Ev.ite_pos (by have := h.len; omega) ?_
  refine Ev.call rfl ?_
  refine Ev.ite_pos b0 ?_
  refine Ev.ite_pos (by show lB ls i < _; rw [hl]; omega) ?_
  have key : ((tab V.toNat (fun v => gainTo (net V ls) (rd f) v i)).set (lA ls i).toNat (wrap64 (rd (tab V.toNat (fun v => gainTo (net V ls) (rd f) v i)) (lA ls i) + rd f i))).set (lB ls i).toNat
   (wrap64 (rd ((tab V.toNat (fun v => gainTo (net V ls) (rd f) v i)).set (lA ls i).toNat (wrap64 (rd (tab V.toNat (fun v => gainTo (net V ls) (rd f) v i)) (lA ls i) + rd f i))) (lB ls i) - rd f i))
   = tab V.toNat (fun v => gainTo (net V ls) (rd f) v (i + 1)) := by
   refine eq_tab (by rw [List.length_set, List.length_set, hl]) (fun v v0 v1 => ?_)
   have g1 := h.gain_bound v (n := i + 1) (by omega)
   have hf := h.le (i : Int) (by omega) (by omega)
   have e0 : gainTo (net V ls) (rd f) v (i + 1) = gainTo (net V ls) (rd f) v i + ((if lA ls i = v then rd f i else 0) - (if lB ls i = v then rd f i else 0)) := rfl
   rw [rd_set b0 (by rw [List.length_set, hl]; omega) v0]
   by_cases eb : v = lB ls i
   · subst eb
     rw [if_pos rfl, rd_set a0 (by rw [hl]; omega) b0, if_neg (fun e => hab e.symm), rd_tab b0 v1, e0, if_neg hab, if_pos rfl]
     rw [e0, if_neg hab, if_pos rfl] at g1
     rw [wrap_id (by omega) (by omega)]
     omega
   · rw [if_neg eb, rd_set a0 (by rw [hl]; omega) v0]
     by_cases ea : v = lA ls i
     · subst ea
       rw [if_pos rfl, rd_tab a0 v1, e0, if_pos rfl, if_neg (fun e => hab e.symm)]
       rw [e0, if_pos rfl, if_neg (fun e => hab e.symm)] at g1
       rw [wrap_id (by omega) (by omega)]
       omega
     · rw [if_neg ea, rd_tab v0 v1, e0, if_neg (fun e => ea e.symm), if_neg (fun e => eb e.symm)]
       omega
  have e3 : wrap64 ((i : Int) + 1) = ((i + 1 : Nat) : Int) := wrap_succ (by omega)
  rw [← key] at X
  exact Ev.congr (fun k => by rw [e3]; rfl) X
theorem stream_gains_ev (V : Int) (ls : List S53) (f : List Int) (h : Fine V ls f) : Ev (fun k => stream_gains.f k V ls f) (tab V.toNat (gain (net V ls) (rd f))) := by
 have hv := h.g.v8
 have hv2 := h.g.v2
 unfold stream_gains.f
 refine Ev.ite_pos (by omega) ?_
 refine Ev.ite_pos (by omega) ?_
 have X := gains_loop V ls f h ls.length 0 (by omega) (by omega)
 have e : tab V.toNat (fun v => gainTo (net V ls) (rd f) v 0) = List.replicate V.toNat 0 :=
  (eq_tab (by simp) (fun i a b => by rw [rd_rep a b]; rfl)).symm
 rw [e] at X
 exact X
theorem ref_gain_loop (V : Int) (ls : List S53) (f : List Int) (h : Fine V ls f) (v : Int) (d : Nat) : ∀ (i : Nat), i ≤ ls.length → ls.length - i = d →
 Ev (fun k => tollbarref4_Gain.l0 k f v (gainTo (net V ls) (rd f) v i) (i : Int) V ls) (gain (net V ls) (rd f) v) := by
 induction d with
 | zero =>
  intro i hi hd
  obtain rfl : i = ls.length := by omega
  refine Ev.step (fun k => by rw [tollbarref4_Gain.l0]) ?_
  refine Ev.ite_neg (by omega) ?_
  exact Ev.now _
 | succ d ih =>
  intro i hi hd
  have X := ih (i + 1) (by omega) (by omega)
  have hm := h.g.m16
  obtain ⟨⟨a0, a1⟩, ⟨b0, b1⟩, hab⟩ := h.g.end_ (i := (i : Int)) (by omega) (by omega)
  have hf := h.le (i : Int) (by omega) (by omega)
  have hlen := h.len
  have g1 := h.gain_bound v (n := i + 1) (by omega)
  have g0 := h.gain_bound v (n := i) (by omega)
  have e0 : gainTo (net V ls) (rd f) v (i + 1) = gainTo (net V ls) (rd f) v i + ((if lA ls i = v then rd f i else 0) - (if lB ls i = v then rd f i else 0)) := rfl
  refine Ev.step (fun k => by rw [tollbarref4_Gain.l0]) ?_
  refine Ev.ite_pos (by omega) ?_
  refine Ev.ite_pos (by omega) ?_
  by_cases ea : lA ls i = v
  · refine Ev.ite_pos ea ?_
    refine Ev.ite_pos (by omega) ?_
    have nb : ¬ lB ls i = v := fun e => hab (ea.trans e.symm)
    refine Ev.ite_neg nb ?_
    rw [e0, if_pos ea, if_neg nb] at g1 X
    have e1 : wrap64 (gainTo (net V ls) (rd f) v i + rd f i) = gainTo (net V ls) (rd f) v i + (rd f i - 0) := by rw [wrap_id (by omega) (by omega)]; omega
    have e3 : wrap64 ((i : Int) + 1) = ((i + 1 : Nat) : Int) := wrap_succ (by omega)
    exact Ev.congr (fun k => by rw [e1, e3]) X
  · refine Ev.ite_neg ea ?_
    by_cases eb : lB ls i = v
    · refine Ev.ite_pos eb ?_
      refine Ev.ite_pos (by omega) ?_
      rw [e0, if_neg ea, if_pos eb] at g1 X
      have e1 : wrap64 (gainTo (net V ls) (rd f) v i - rd f i) = gainTo (net V ls) (rd f) v i + (0 - rd f i) := by rw [wrap_id (by omega) (by omega)]; omega
      have e3 : wrap64 ((i : Int) + 1) = ((i + 1 : Nat) : Int) := wrap_succ (by omega)
      exact Ev.congr (fun k => by rw [e1, e3]) X
    · refine Ev.ite_neg eb ?_
      rw [e0, if_neg ea, if_neg eb] at X
      have e1 : gainTo (net V ls) (rd f) v i + (0 - 0) = gainTo (net V ls) (rd f) v i := by omega
      rw [e1] at X
      have e3 : wrap64 ((i : Int) + 1) = ((i + 1 : Nat) : Int) := wrap_succ (by omega)
      exact Ev.congr (fun k => by rw [e3]) X
theorem ref_Gain_ev (V : Int) (ls : List S53) (f : List Int) (h : Fine V ls f) (v : Int) : Ev (fun k => tollbarref4_Gain.f k V ls f v) (gain (net V ls) (rd f) v) :=
 ref_gain_loop V ls f h v ls.length 0 (by omega) (by omega)
structure FlowOk (V : Int) (ls : List S53) (caps f : List Int) (s t : Int) : Prop where
 c : CapsOk V ls caps
 w : Win caps f
 vs : 0 ≤ s ∧ s < V
 vt : 0 ≤ t ∧ t < V
 ne : s ≠ t
 pos : 0 ≤ gain (net V ls) (rd f) s
 keep : ∀ v : Int, 0 ≤ v → v < V → v ≠ s → v ≠ t → gain (net V ls) (rd f) v = 0
theorem FlowOk.flow {V : Int} {ls : List S53} {caps f : List Int} {s t : Int} (h : FlowOk V ls caps f s t) : Flow (net V ls) (rd caps) (rd f) s t := by
 have e := net_V (V := V) (ls := ls) (by have := h.c.g.v2; omega)
 refine ⟨fun i a b => ?_, ?_, ?_, h.ne, h.pos, fun v a b c => ?_⟩
 · exact h.w.le i a (by rw [h.w.len, h.c.len]; exact b)
 · unfold Net.vert; rw [e]; exact h.vs
 · unfold Net.vert; rw [e]; exact h.vt
 · unfold Net.vert at a; rw [e] at a; exact h.keep v a.1 a.2 b c
theorem flow_loop (V : Int) (ls : List S53) (caps f : List Int) (s t : Int) (hf : CapsOk V ls caps) (hw : Win caps f) (hs : 0 ≤ s ∧ s < V) (ht : 0 ≤ t ∧ t < V) (ne : s ≠ t) (d : Nat) : ∀ (i : Nat), (i : Int) ≤ V → V.toNat - i = d →
 (∀ v : Int, 0 ≤ v → v < (i : Int) → (v = s → 0 ≤ gain (net V ls) (rd f) s) ∧ (v ≠ s → v ≠ t → gain (net V ls) (rd f) v = 0)) →
 Ev (fun k => stream_May.l0 k s t (tab V.toNat (gain (net V ls) (rd f))) ((tab V.toNat (gain (net V ls) (rd f))).length : Int) (i : Int)) (decide (FlowOk V ls caps f s t)) := by
 have hl : (tab V.toNat (gain (net V ls) (rd f))).length = V.toNat := tab_len _ _
 have hv := hf.g.v8
 induction d with
 | zero =>
  intro i hi hd hp
  refine Ev.step (fun k => by rw [stream_May.l0]) ?_
  refine Ev.ite_neg (by omega) ?_
  rw [decide_eq_true (⟨hf, hw, hs, ht, ne, (hp s hs.1 (by omega)).1 rfl, fun v a b c d => (hp v a (by omega)).2 c d⟩ : FlowOk V ls caps f s t)]
  exact Ev.now _
 | succ d ih =>
  intro i hi hd hp
  have X := ih (i + 1) (by omega) (by omega)
  refine Ev.step (fun k => by rw [stream_May.l0]) ?_
  refine Ev.ite_pos (by omega) ?_
  refine Ev.ite_pos (by omega) ?_
  refine Ev.ite_pos (by omega) ?_
  have er : rd (tab V.toNat (gain (net V ls) (rd f))) (i : Int) = gain (net V ls) (rd f) i := rd_tab (by omega) (by omega)
  rw [er]
  by_cases es : (i : Int) = s
  · refine Ev.ite_pos es ?_
    by_cases hg : gain (net V ls) (rd f) i < 0
    · refine Ev.ite_pos hg ?_
      rw [decide_eq_false (fun h : FlowOk V ls caps f s t => by have := h.pos; rw [es] at hg; omega)]
      exact Ev.now _
    · refine Ev.ite_neg hg ?_
      have Y := X (fun v a b => by
       by_cases e : v = i
       · subst e; exact ⟨fun _ => by rw [← es]; omega, fun c => absurd es c⟩
       · exact hp v a (by omega))
      have e3 : wrap64 ((i : Int) + 1) = ((i + 1 : Nat) : Int) := wrap_succ (by omega)
      exact Ev.congr (fun k => by rw [e3]) Y
  · refine Ev.ite_neg es ?_
    by_cases et : (i : Int) = t
    · refine Ev.ite_pos et ?_
      have Y := X (fun v a b => by
       by_cases e : v = i
       · subst e; exact ⟨fun c => absurd c es, fun _ c => absurd et c⟩
       · exact hp v a (by omega))
      have e3 : wrap64 ((i : Int) + 1) = ((i + 1 : Nat) : Int) := wrap_succ (by omega)
      exact Ev.congr (fun k => by rw [e3]) Y
    · refine Ev.ite_neg et ?_
      by_cases hg : gain (net V ls) (rd f) i = 0
      · refine Ev.ite_pos hg ?_
        have Y := X (fun v a b => by
         by_cases e : v = i
         · subst e; exact ⟨fun c => absurd c es, fun _ _ => hg⟩
         · exact hp v a (by omega))
        have e3 : wrap64 ((i : Int) + 1) = ((i + 1 : Nat) : Int) := wrap_succ (by omega)
        exact Ev.congr (fun k => by rw [e3]) Y
      · refine Ev.ite_neg hg ?_
        rw [decide_eq_false (fun h : FlowOk V ls caps f s t => hg (h.keep i (by omega) (by omega) es et))]
        exact Ev.now _
theorem stream_May_ev (V : Int) (ls : List S53) (caps f : List Int) (s t : Int) : Ev (fun k => stream_May.f k V ls caps f s t) (decide (FlowOk V ls caps f s t)) := by
 have no : ¬ FlowOk V ls caps f s t → Ev (fun k => stream_May.j0 k f s t true V ls) (decide (FlowOk V ls caps f s t)) := by
  intro h
  rw [decide_eq_false h]
  refine Ev.step (fun k => by rw [stream_May.j0]) ?_
  exact Ev.ite_pos rfl (Ev.now _)
 unfold stream_May.f
 refine Ev.bind (stream_Lies_ev V ls caps f) ?_
 by_cases h : CapsOk V ls caps ∧ Win caps f
 · refine Ev.ite_pos (decide_eq_true h) ?_
   refine Ev.call (graph_Has_eq _ _ _) ?_
   by_cases hs : 0 ≤ s ∧ s < V
   · refine Ev.ite_pos (decide_eq_true hs) ?_
     refine Ev.call (graph_Has_eq _ _ _) ?_
     by_cases ht : 0 ≤ t ∧ t < V
     · refine Ev.ite_pos (decide_eq_true ht) ?_
       by_cases ne : s = t
       · have e : (s == t) = true := by simp [ne]
         rw [e]
         exact no (fun g => g.ne ne)
       · have e : (s == t) = false := by simp [ne]
         rw [e]
         refine Ev.step (fun k => by rw [stream_May.j0]) ?_
         refine Ev.ite_neg (by simp) ?_
         refine Ev.bind (stream_gains_ev V ls f (Fine.of h.1 h.2)) ?_
         exact flow_loop V ls caps f s t h.1 h.2 hs ht ne V.toNat 0 (by omega) (by omega) (fun v a b => by omega)
     · refine Ev.ite_neg (by simp only [decide_eq_true_eq]; exact ht) ?_
       exact no (fun g => ht g.vt)
   · refine Ev.ite_neg (by simp only [decide_eq_true_eq]; exact hs) ?_
     exact no (fun g => hs g.vs)
 · refine Ev.ite_neg (by simp only [decide_eq_true_eq]; exact h) ?_
   exact no (fun g => h ⟨g.c, g.w⟩)
theorem refflow_loop (V : Int) (ls : List S53) (caps f : List Int) (s t : Int) (hf : CapsOk V ls caps) (hw : Win caps f) (hs : 0 ≤ s ∧ s < V) (ht : 0 ≤ t ∧ t < V) (ne : s ≠ t) (hpos : 0 ≤ gain (net V ls) (rd f) s) (d : Nat) : ∀ (i : Nat), (i : Int) ≤ V → V.toNat - i = d →
 (∀ v : Int, 0 ≤ v → v < (i : Int) → v ≠ s → v ≠ t → gain (net V ls) (rd f) v = 0) →
 Ev (fun k => tollbarref4_FlowMay.l0 k f s t (i : Int) V ls) (decide (FlowOk V ls caps f s t)) := by
 have hv := hf.g.v8
 induction d with
 | zero =>
  intro i hi hd hp
  refine Ev.step (fun k => by rw [tollbarref4_FlowMay.l0]) ?_
  refine Ev.ite_neg (by omega) ?_
  rw [decide_eq_true (⟨hf, hw, hs, ht, ne, hpos, fun v a b c d => hp v a (by omega) c d⟩ : FlowOk V ls caps f s t)]
  exact Ev.now _
 | succ d ih =>
  intro i hi hd hp
  have X := ih (i + 1) (by omega) (by omega)
  refine Ev.step (fun k => by rw [tollbarref4_FlowMay.l0]) ?_
  refine Ev.ite_pos (by omega) ?_
  by_cases es : (i : Int) = s
  · refine Ev.ite_pos es ?_
    have Y := X (fun v a b c c' => by
     by_cases e : v = i
     · subst e; exact absurd es c
     · exact hp v a (by omega) c c')
    have e3 : wrap64 ((i : Int) + 1) = ((i + 1 : Nat) : Int) := wrap_succ (by omega)
    exact Ev.congr (fun k => by rw [e3]) Y
  · refine Ev.ite_neg es ?_
    by_cases et : (i : Int) = t
    · refine Ev.ite_pos et ?_
      have Y := X (fun v a b c c' => by
       by_cases e : v = i
       · subst e; exact absurd et c'
       · exact hp v a (by omega) c c')
      have e3 : wrap64 ((i : Int) + 1) = ((i + 1 : Nat) : Int) := wrap_succ (by omega)
      exact Ev.congr (fun k => by rw [e3]) Y
    · refine Ev.ite_neg et ?_
      refine Ev.bind (ref_Gain_ev V ls f (Fine.of hf hw) i) ?_
      by_cases hg : gain (net V ls) (rd f) i = 0
      · refine Ev.ite_pos hg ?_
        have Y := X (fun v a b c c' => by
         by_cases e : v = i
         · subst e; exact hg
         · exact hp v a (by omega) c c')
        have e3 : wrap64 ((i : Int) + 1) = ((i + 1 : Nat) : Int) := wrap_succ (by omega)
        exact Ev.congr (fun k => by rw [e3]) Y
      · refine Ev.ite_neg hg ?_
        rw [decide_eq_false (fun h : FlowOk V ls caps f s t => hg (h.keep i (by omega) (by omega) es et))]
        exact Ev.now _
theorem ref_FlowMay_ev (V : Int) (ls : List S53) (caps f : List Int) (s t : Int) (hx : f.length ≤ 17592186044416) : Ev (fun k => tollbarref4_FlowMay.f k V ls caps f s t) (decide (FlowOk V ls caps f s t)) := by
 have no : ¬ FlowOk V ls caps f s t → Ev (fun k => tollbarref4_FlowMay.j0 k f s t true V ls) (decide (FlowOk V ls caps f s t)) := by
  intro h
  rw [decide_eq_false h]
  refine Ev.step (fun k => by rw [tollbarref4_FlowMay.j0]) ?_
  exact Ev.ite_pos rfl (Ev.now _)
 unfold tollbarref4_FlowMay.f
 refine Ev.bind (ref_CapsMay_ev V ls caps) ?_
 by_cases hc : CapsOk V ls caps
 · refine Ev.ite_pos (decide_eq_true hc) ?_
   refine Ev.bind (ref_Within_ev caps f hx) ?_
   by_cases hw : Win caps f
   · refine Ev.ite_pos (decide_eq_true hw) ?_
     refine Ev.call (ref_Vertex_eq _ _ _) ?_
     by_cases hs : 0 ≤ s ∧ s < V
     · refine Ev.ite_pos (decide_eq_true hs) ?_
       refine Ev.call (ref_Vertex_eq _ _ _) ?_
       by_cases ht : 0 ≤ t ∧ t < V
       · refine Ev.ite_pos (decide_eq_true ht) ?_
         by_cases ne : s = t
         · refine Ev.ite_pos ne ?_
           exact no (fun g => g.ne ne)
         · refine Ev.ite_neg ne ?_
           refine Ev.bind (ref_Gain_ev V ls f (Fine.of hc hw) s) ?_
           by_cases hg : gain (net V ls) (rd f) s < 0
           · rw [decide_eq_true hg]
             exact no (fun g => by have := g.pos; omega)
           · rw [decide_eq_false hg]
             refine Ev.step (fun k => by rw [tollbarref4_FlowMay.j0]) ?_
             refine Ev.ite_neg (by simp) ?_
             exact refflow_loop V ls caps f s t hc hw hs ht ne (by omega) V.toNat 0 (by omega) (by omega) (fun v a b => by omega)
       · refine Ev.ite_neg (by simp only [decide_eq_true_eq]; exact ht) ?_
         exact no (fun g => ht g.vt)
     · refine Ev.ite_neg (by simp only [decide_eq_true_eq]; exact hs) ?_
       exact no (fun g => hs g.vs)
   · refine Ev.ite_neg (by simp only [decide_eq_true_eq]; exact hw) ?_
     exact no (fun g => hw g.w)
 · refine Ev.ite_neg (by simp only [decide_eq_true_eq]; exact hc) ?_
   exact no (fun g => hc g.c)
theorem same_loop (xs ys : List Int) (hl : xs.length = ys.length) (hx : xs.length ≤ 17592186044416) (d : Nat) : ∀ (i : Nat), i ≤ xs.length → xs.length - i = d → (∀ j : Int, 0 ≤ j → j < (i : Int) → rd xs j = rd ys j) →
 Ev (fun k => tollbarref19_SameInts.l0 k xs ys (i : Int)) (decide (xs = ys)) := by
 induction d with
 | zero =>
  intro i hi hd hp
  obtain rfl : i = xs.length := by omega
  refine Ev.step (fun k => by rw [tollbarref19_SameInts.l0]) ?_
  refine Ev.ite_neg (by omega) ?_
  rw [decide_eq_true (rd_ext hl hp)]
  exact Ev.now _
 | succ d ih =>
  intro i hi hd hp
  refine Ev.step (fun k => by rw [tollbarref19_SameInts.l0]) ?_
  refine Ev.ite_pos (by omega) ?_
  refine Ev.ite_pos (by omega) ?_
  refine Ev.ite_pos (by omega) ?_
  by_cases h : rd xs i = rd ys i
  · refine Ev.ite_pos h ?_
    have X := ih (i + 1) (by omega) (by omega) (fun j a b => by
     by_cases e : j = i
     · subst e; exact h
     · exact hp j a (by omega))
    have e3 : wrap64 ((i : Int) + 1) = ((i + 1 : Nat) : Int) := wrap_succ (by omega)
    exact Ev.congr (fun k => by rw [e3]) X
  · refine Ev.ite_neg h ?_
    rw [decide_eq_false (fun e => h (by rw [e]))]
    exact Ev.now _
theorem ref_SameInts_ev (xs ys : List Int) (hx : xs.length ≤ 17592186044416) : Ev (fun k => tollbarref19_SameInts.f k xs ys) (decide (xs = ys)) := by
 unfold tollbarref19_SameInts.f
 by_cases hl : xs.length = ys.length
 · refine Ev.ite_pos (by omega) ?_
   exact same_loop xs ys hl hx xs.length 0 (by omega) (by omega) (fun j a b => by omega)
 · refine Ev.ite_neg (by omega) ?_
   rw [decide_eq_false (fun e => hl (by rw [e]))]
   exact Ev.now _
theorem SameInts_ev (xs ys : List Int) (hx : xs.length ≤ 17592186044416) : Ev (fun k => tollbarlaw0_SameInts.f k xs ys) (decide (xs = ys)) := by
 unfold tollbarlaw0_SameInts.f
 exact Ev.bind (ref_SameInts_ev xs ys hx) (Ev.now _)
theorem SameInts_self (xs : List Int) (hx : xs.length ≤ 17592186044416) : Ev (fun k => tollbarlaw0_SameInts.f k xs xs) true := by
 have := SameInts_ev xs xs hx
 rwa [decide_eq_true rfl] at this
theorem spoil_loop (n : Nat) (hx : n ≤ 17592186044416) (d : Nat) : ∀ (i : Nat) (xs : List Int), xs.length = n → i ≤ n → n - i = d →
 ∃ r, Ev (fun k => tollbarlaw0_SpoilInts.l0 k xs (i : Int)) r := by
 induction d with
 | zero =>
  intro i xs hl hi hd
  refine ⟨xs, Ev.step (fun k => by rw [tollbarlaw0_SpoilInts.l0]) ?_⟩
  refine Ev.ite_neg (by omega) ?_
  exact Ev.now _
 | succ d ih =>
  intro i xs hl hi hd
  obtain ⟨r, X⟩ := ih (i + 1) (xs.set ((i : Int) : Int).toNat (wrap64 ((-9) - (Int.tmod (rd xs (i : Int)) 1000)))) (by rw [List.length_set]; exact hl) (by omega) (by omega)
  refine ⟨r, Ev.step (fun k => by rw [tollbarlaw0_SpoilInts.l0]) ?_⟩
  refine Ev.ite_pos (by omega) ?_
  refine Ev.ite_pos (by omega) ?_
  have e3 : wrap64 ((i : Int) + 1) = ((i + 1 : Nat) : Int) := wrap_succ (by omega)
  exact Ev.congr (fun k => by rw [e3]) X
theorem SpoilInts_ev (xs : List Int) (hx : xs.length ≤ 17592186044416) : ∃ r, Ev (fun k => tollbarlaw0_SpoilInts.f k xs) r := spoil_loop xs.length hx xs.length 0 xs rfl (by omega) (by omega)
theorem fine_iff (V : Int) (ls : List S53) (f : List Int) : (CapsOk V ls (ls.map (·.f2)) ∧ Win (ls.map (·.f2)) f) ↔ Fine V ls f := by
 constructor
 · rintro ⟨h, w⟩
   exact Fine.of h w
 · intro h
   have hc : CapsOk V ls (ls.map (·.f2)) := ⟨h.g, by simp, fun i a b => by
    rw [List.length_map] at b
    rw [rd_map_cap ls a b]
    exact ⟨h.g.cap i a b, Int.le_refl _⟩⟩
   refine ⟨hc, by rw [List.length_map]; exact h.len, fun i a b => ?_⟩
   have b2 : i < (ls.length : Int) := by rw [← h.len]; exact b
   rw [rd_map_cap ls a b2]
   exact h.le i a b2
theorem drop_rd {xs : List Int} {i : Nat} (h : i < xs.length) : xs.drop i = rd xs (i : Int) :: xs.drop (i + 1) := by
 rw [List.drop_eq_getElem_cons h]
 simp only [rd, Int.toNat_natCast, List.getD_eq_getElem?_getD, List.getElem?_eq_getElem h]
 rfl
theorem rd_mem {xs : List Int} {i : Int} (h0 : 0 ≤ i) (h1 : i < (xs.length : Int)) : rd xs i ∈ xs := gd_mem (by omega)
theorem mem_rd {xs : List Int} {x : Int} (h : x ∈ xs) : ∃ i : Int, 0 ≤ i ∧ i < (xs.length : Int) ∧ rd xs i = x := by
 obtain ⟨i, hi, e⟩ := mem_gd 0 h
 exact ⟨(i : Int), by omega, by omega, by unfold rd; rw [Int.toNat_natCast]; exact e⟩
theorem rd_zero_cons {x : Int} {xs : List Int} : rd (x :: xs) 0 = x := rfl
theorem rd_succ_cons {x : Int} {xs : List Int} {i : Int} (h : 0 ≤ i) : rd (x :: xs) (i + 1) = rd xs i := by
 unfold rd
 rw [show (i + 1).toNat = i.toNat + 1 by omega]
 simp
section
variable {V : Int} {ls : List S53} {caps f : List Int} {s : Int}
end
theorem CopyIntsK_eq {xs : List Int} (h : xs.length < 17592186044416) : tollbarlaw0_CopyInts.f xs = some xs := by
 unfold tollbarlaw0_CopyInts.f
 simp only [Option.bind_some]
 rw [if_pos (by simpa using h)]
 rfl
theorem LendInts_eq {xs : List Int} (h : xs.length + 2 < 17592186044416) : tollbarlaw0_LendInts.f xs = some xs := by
 unfold tollbarlaw0_LendInts.f
 rw [CopyIntsK_eq (by omega)]
 simp only [Option.bind_some]
 rw [if_pos h]
theorem KeptInts_ev (xs : List Int) (h : xs.length + 2 < 17592186044416) : Ev (fun k => tollbarlaw0_KeptInts.f k xs xs) true := by
 unfold tollbarlaw0_KeptInts.f
 refine Ev.ite_pos h (Ev.ite_pos rfl ?_)
 refine Ev.bind (SameInts_self xs (by omega)) ?_
 exact Ev.ite_pos rfl (Ev.now _)
theorem index_loop (xs : List Int) (y : Int) (hx : xs.length ≤ 17592186044416) (d : Nat) : ∀ (i : Nat), i ≤ xs.length → xs.length - i = d → (∀ j : Int, 0 ≤ j → j < (i : Int) → rd xs j ≠ y) →
 ∃ t : Int, Ev (fun k => slices_Index_int_int.l0 k xs y (xs.length : Int) (i : Int)) t ∧ ((t = -1 ∧ y ∉ xs) ∨ (0 ≤ t ∧ t < (xs.length : Int) ∧ rd xs t = y)) := by
 induction d with
 | zero =>
  intro i hi hd hp
  obtain rfl : i = xs.length := by omega
  refine ⟨-1, ?_, .inl ⟨rfl, fun hy => ?_⟩⟩
  · refine Ev.step (fun k => by rw [slices_Index_int_int.l0]) ?_
    refine Ev.ite_neg (by omega) (Ev.now _)
  · obtain ⟨j, j0, j1, e⟩ := mem_rd hy
    exact hp j j0 j1 e
 | succ d ih =>
  intro i hi hd hp
  by_cases e : y = rd xs (i : Int)
  · refine ⟨(i : Int), ?_, .inr ⟨by omega, by omega, e.symm⟩⟩
    refine Ev.step (fun k => by rw [slices_Index_int_int.l0]) ?_
    exact Ev.ite_pos (by omega) (Ev.ite_pos (by omega) (Ev.ite_pos (by omega) (Ev.ite_pos e (Ev.now _))))
  · obtain ⟨t, X, h⟩ := ih (i + 1) (by omega) (by omega) (fun j a b => by
     by_cases ej : j = (i : Int)
     · rw [ej]; exact fun g => e g.symm
     · exact hp j a (by omega))
    refine ⟨t, ?_, h⟩
    refine Ev.step (fun k => by rw [slices_Index_int_int.l0]) ?_
    refine Ev.ite_pos (by omega) (Ev.ite_pos (by omega) (Ev.ite_pos (by omega) (Ev.ite_neg e ?_)))
    exact Ev.congr (fun k => by rw [wrap_succ (by omega)]) X
theorem Index_ev (xs : List Int) (y : Int) (hx : xs.length ≤ 17592186044416) : ∃ t : Int, Ev (fun k => slices_Index_int_int.f k xs y) t ∧ ((t = -1 ∧ y ∉ xs) ∨ (0 ≤ t ∧ t < (xs.length : Int) ∧ rd xs t = y)) :=
 index_loop xs y hx xs.length 0 (by omega) (by omega) (fun j a b => by omega)
def swl (x : S53) : S53 := ⟨x.f1, x.f0, x.f2⟩
theorem swl_gd (ls : List S53) (j : Nat) : (ls.map swl).getD j z53 = swl (ls.getD j z53) := by
 rw [List.getD_eq_getElem?_getD, List.getElem?_map, List.getD_eq_getElem?_getD]
 cases ls[j]? <;> rfl
theorem lA_swl (ls : List S53) : lA (ls.map swl) = lB ls := by
 funext i; unfold lA lB rd_T53; rw [swl_gd]; rfl
theorem lB_swl (ls : List S53) : lB (ls.map swl) = lA ls := by
 funext i; unfold lA lB rd_T53; rw [swl_gd]; rfl
theorem lC_swl (ls : List S53) : lC (ls.map swl) = lC ls := by
 funext i; unfold lC rd_T53; rw [swl_gd]; rfl
theorem GOk.swl {V : Int} {ls : List S53} (h : GOk V ls) : GOk V (ls.map swl) := by
 refine (gok_iff V _).2 ⟨h.v2, h.v8, by rw [List.length_map]; exact h.m16, fun i a b => ?_, fun i a b => ?_, ?_⟩
 · rw [List.length_map] at b
   unfold LinkOk
   rw [lA_swl, lB_swl]
   have := h.end_ a b
   exact ⟨this.2.1, this.1, fun e => this.2.2 e.symm⟩
 · rw [List.length_map] at b
   rw [lC_swl]; exact h.cap i a b
 · rw [lC_swl, List.length_map]; exact h.sum
theorem net_ok {V : Int} {ls : List S53} (h : GOk V ls) : (net V ls).ok := by
 refine ⟨fun i a b => ?_⟩
 have h1 := h.end_ a b
 have hv := net_V (V := V) (ls := ls) (by have := h.v2; omega)
 show (0 ≤ (net V ls).a i ∧ (net V ls).a i < ((net V ls).V : Int)) ∧ _
 rw [hv]
 exact h1
theorem on_loop {V : Int} {ls : List S53} {f : List Int} {X : List Bool} (hg : GOk V ls) (hf : f.length = ls.length) (hX : X.length = V.toNat) (v : Int) (d : Nat) :
 ∀ (i : Nat), i ≤ ls.length → ls.length - i = d → (∀ j : Int, 0 ≤ j → j < (i : Int) → ¬ (lA ls j = v ∧ rdOf false X (lB ls j) = true ∧ 0 < rd f j)) →
  ∃ t : Int, Ev (fun k => cycle_on.l0 k f X v ls (ls.length : Int) (i : Int)) t ∧ ((t = -1 ∧ ¬ live (net V ls) (rd f) (rdOf false X) v) ∨ ((0 ≤ t ∧ t < (ls.length : Int)) ∧ lA ls t = v ∧ rdOf false X (lB ls t) = true ∧ 0 < rd f t)) := by
 have hm := hg.m16
 have hv2 := hg.v2
 induction d with
 | zero =>
  intro i hi hd hp
  obtain rfl : i = ls.length := by omega
  refine ⟨-1, ?_, .inl ⟨rfl, ?_⟩⟩
  · refine Ev.step (fun k => by rw [cycle_on.l0]) ?_
    exact Ev.ite_neg (by omega) (Ev.now _)
  · rintro ⟨j, j0, j1, a, b, c⟩
    exact hp j j0 j1 ⟨a, b, c⟩
 | succ d ih =>
  intro i hi hd hp
  have he := hg.end_ (i := (i : Int)) (by omega) (by omega)
  by_cases c : lA ls (i : Int) = v ∧ rdOf false X (lB ls (i : Int)) = true ∧ 0 < rd f (i : Int)
  · refine ⟨(i : Int), ?_, .inr ⟨⟨by omega, by omega⟩, c⟩⟩
    refine Ev.step (fun k => by rw [cycle_on.l0]) ?_
    refine Ev.ite_pos (by omega) (Ev.ite_pos (by omega) (Ev.ite_pos (by omega) (Ev.ite_pos c.1 (Ev.ite_pos he.2.1.1 (Ev.ite_pos (by have := he.2.1.2; unfold lB at this; omega) (Ev.ite_pos c.2.1 (Ev.ite_pos (by omega) (Ev.ite_pos c.2.2 (Ev.now _)))))))))
  · obtain ⟨t, X1, h⟩ := ih (i + 1) (by omega) (by omega) (fun j a b => by
     by_cases ej : j = (i : Int)
     · rw [ej]; exact c
     · exact hp j a (by omega))
    refine ⟨t, ?_, h⟩
    have Y : Ev (fun k => cycle_on.l0 k f X v ls (ls.length : Int) (wrap64 ((i : Int) + 1))) t := Ev.congr (fun k => by rw [wrap_succ (by omega)]) X1
    refine Ev.step (fun k => by rw [cycle_on.l0]) ?_
    refine Ev.ite_pos (by omega) (Ev.ite_pos (by omega) (Ev.ite_pos (by omega) ?_))
    by_cases c1 : lA ls (i : Int) = v
    · refine Ev.ite_pos c1 (Ev.ite_pos he.2.1.1 (Ev.ite_pos (by have := he.2.1.2; unfold lB at this; omega) ?_))
      by_cases c2 : rdOf false X (lB ls (i : Int)) = true
      · refine Ev.ite_pos c2 (Ev.ite_pos (by omega) ?_)
        exact Ev.ite_neg (fun c3 => c ⟨c1, c2, c3⟩) Y
      · exact Ev.ite_neg c2 Y
    · exact Ev.ite_neg c1 Y
theorem on_ev {V : Int} {ls : List S53} {f : List Int} {X : List Bool} (hg : GOk V ls) (hf : f.length = ls.length) (hX : X.length = V.toNat) (v : Int) :
 ∃ t : Int, Ev (fun k => cycle_on.f k V ls f X v) t ∧ ((t = -1 ∧ ¬ live (net V ls) (rd f) (rdOf false X) v) ∨ ((0 ≤ t ∧ t < (ls.length : Int)) ∧ lA ls t = v ∧ rdOf false X (lB ls t) = true ∧ 0 < rd f t)) :=
 on_loop hg hf hX v ls.length 0 (by omega) (by omega) (fun j a b => by omega)
structure Peel (N : Net) (f : Int → Int) (X Y : List Bool) (i : Int) : Prop where
 len : Y.length = N.V
 all : ∀ Z : Int → Bool, closed N f Z → ∀ v : Int, 0 ≤ v → v < (N.V : Int) → Z v = true → rdOf false Y v = true
 keep : closed N f (rdOf false X) → ∀ v : Int, 0 ≤ v → v < (N.V : Int) → rdOf false Y v = rdOf false X v
 less : cnt N.V (rdOf false Y) + 1 ≤ cnt N.V (rdOf false X) ∨ ((∀ v : Int, 0 ≤ v → v < (N.V : Int) → rdOf false Y v = rdOf false X v) ∧ ∀ v : Int, 0 ≤ v → v < i → rdOf false X v = true → live N f (rdOf false X) v)
theorem Peel.step {N : Net} (hN : N.ok) {f : Int → Int} {X Y : List Bool} {i : Int} (h : Peel N f X Y i) (i0 : 0 ≤ i) (i1 : i < (N.V : Int)) {b : Bool} (hb : rdOf false Y i = true → (b = true ↔ live N f (rdOf false Y) i)) (hb2 : rdOf false Y i = false → b = false) :
 Peel N f X (Y.set i.toNat b) (i + 1) := by
 have hl := h.len
 have hr : ∀ u : Int, 0 ≤ u → rdOf false (Y.set i.toNat b) u = if u = i then b else rdOf false Y u := fun u u0 => rdOf_set i0 (by omega) u0
 have hX : ∀ u : Int, 0 ≤ u → u < (N.V : Int) → rdOf false (Y.set i.toNat b) u = if u = i then (rdOf false Y i && b) else rdOf false Y u := by
  intro u u0 u1
  rw [hr u u0]
  by_cases e : u = i
  · rw [if_pos e, if_pos e]
    cases hy : rdOf false Y i with
    | true => rfl
    | false => rw [hb2 hy]; rfl
  · rw [if_neg e, if_neg e]
 have P := peel_step hN hX hb
 refine ⟨by rw [List.length_set]; exact hl, fun Z hZ v v0 v1 hz => P.all Z hZ (fun u u0 u1 hu => h.all Z hZ u u0 u1 hu) v v0 v1 hz, fun hc v v0 v1 => ?_, ?_⟩
 · have hk := h.keep hc
   have hc2 : closed N f (rdOf false Y) := hc.congr hN hk
   rw [peel_same hX (fun hy => (hb hy).2 (hc2 i i0 i1 hy)) v v0 v1]
   exact hk v v0 v1
 · rcases h.less with l | ⟨l1, l2⟩
   · left
     have hm := cnt_mono (V := N.V) (P := rdOf false (Y.set i.toNat b)) (Q := rdOf false Y) (fun u u0 u1 hu => P.sub u u0 u1 hu)
     omega
   · cases hy : rdOf false Y i with
     | false =>
      right
      have hs := peel_same hX (fun g => by rw [hy] at g; cases g)
      refine ⟨fun v v0 v1 => by rw [hs v v0 v1]; exact l1 v v0 v1, fun v v0 v1 hv => ?_⟩
      by_cases e : v = i
      · rw [e, ← l1 i i0 i1, hy] at hv; cases hv
      · exact l2 v v0 (by omega) hv
     | true =>
      cases hbb : b with
      | false =>
       left
       have hl2 := peel_less (N := N) hX i0 i1 hy hbb
       have e3 : cnt N.V (rdOf false Y) ≤ cnt N.V (rdOf false X) := cnt_mono (fun v v0 v1 hv => by rw [← l1 v v0 v1]; exact hv)
       rw [hbb] at hl2
       omega
      | true =>
       right
       have hs := peel_same hX (fun _ => hbb)
       rw [hbb] at hs
       refine ⟨fun v v0 v1 => by rw [hs v v0 v1]; exact l1 v v0 v1, fun v v0 v1 hv => ?_⟩
       by_cases e : v = i
       · rw [e]
         exact ((hb hy).1 hbb).mono (fun u u0 u1 hu => by rw [← l1 u u0 u1]; exact hu) hN
       · exact l2 v v0 (by omega) hv
structure Core (N : Net) (f : Int → Int) (X : List Bool) (n : Nat) : Prop where
 len : X.length = N.V
 all : ∀ Z : Int → Bool, closed N f Z → ∀ v : Int, 0 ≤ v → v < (N.V : Int) → Z v = true → rdOf false X v = true
 end_ : closed N f (rdOf false X) ∨ cnt N.V (rdOf false X) + n ≤ N.V
theorem Core.peel {N : Net} (hN : N.ok) {f : Int → Int} {X Y : List Bool} {n : Nat} (h : Core N f X n) (g : Peel N f X Y (N.V : Int)) : Core N f Y (n + 1) := by
 refine ⟨g.len, g.all, ?_⟩
 rcases h.end_ with e | e
 · exact .inl (e.congr hN (g.keep e))
 · rcases g.less with l | ⟨l1, l2⟩
   · right; omega
   · left
     have hc : closed N f (rdOf false X) := fun v v0 v1 hv => l2 v v0 v1 hv
     exact hc.congr hN l1
theorem Core.start {N : Net} {f : Int → Int} : Core N f (List.replicate N.V true) 0 :=
 ⟨by simp, fun Z _ v v0 v1 _ => rdOf_rep v0 v1, .inr (by have := cnt_le N.V (rdOf false (List.replicate N.V true)); omega)⟩
theorem Core.closed {N : Net} {f : Int → Int} {X : List Bool} (h : Core N f X N.V) : closed N f (rdOf false X) := by
 rcases h.end_ with e | e
 · exact e
 · intro v v0 v1 hv
   have := cnt_lt (V := N.V) (P := fun _ => false) (Q := rdOf false X) (fun _ _ _ g => by cases g) v0 v1 rfl hv
   have := cnt_nonneg N.V (fun _ => false)
   omega
section
variable {V : Int} {ls : List S53} {f : List Int}
theorem core_pick (hg : GOk V ls) (hf : f.length = ls.length) {j : Int} {X : List Bool} (d : Nat) :
 ∀ (i : Nat) (Y : List Bool), (i : Int) ≤ V → V.toNat - i = d → Peel (net V ls) (rd f) X Y (i : Int) →
  ∃ Z : List Bool, Peel (net V ls) (rd f) X Z V ∧ ∀ r : List Bool, Ev (fun k => cycle_core.l0 k f Z V (wrap64 (j + 1)) V ls) r → Ev (fun k => cycle_core.l1 k f Y V j V (i : Int) V ls) r := by
 have hv2 := hg.v2
 have hv8 := hg.v8
 have hN := net_ok hg
 have hNV : ((net V ls).V : Int) = V := net_V (by omega)
 induction d with
 | zero =>
  intro i Y hi hd hY
  have ei : (i : Int) = V := by omega
  rw [ei] at hY
  refine ⟨Y, hY, fun r next => ?_⟩
  refine Ev.step (fun k => by rw [cycle_core.l1]) ?_
  exact Ev.ite_neg (by omega) next
 | succ d ih =>
  intro i Y hi hd hY
  have hl := hY.len
  have hl2 : (Y.length : Int) = V := by rw [hl]; exact hNV
  have cast : ((i : Int) + 1) = ((i + 1 : Nat) : Int) := by omega
  cases hy : rdOf false Y (i : Int) with
  | true =>
   obtain ⟨t, T, h⟩ := on_ev (V := V) (ls := ls) (f := f) (X := Y) hg hf (by omega) (i : Int)
   have hb : decide (t ≥ 0) = true ↔ live (net V ls) (rd f) (rdOf false Y) (i : Int) := by
    rw [decide_eq_true_eq]
    rcases h with ⟨h1, h2⟩ | ⟨h1, h2, h3, h4⟩
    · exact ⟨fun g => by omega, fun g => absurd g h2⟩
    · exact ⟨fun _ => ⟨t, h1.1, h1.2, h2, h3, h4⟩, fun _ => h1.1⟩
   have P := hY.step hN (by omega) (by omega) (b := decide (t ≥ 0)) (fun _ => hb) (fun g => by rw [hy] at g; cases g)
   rw [cast] at P
   obtain ⟨Z, hZ, hr⟩ := ih (i + 1) _ (by omega) (by omega) P
   refine ⟨Z, hZ, fun r next => ?_⟩
   refine Ev.step (fun k => by rw [cycle_core.l1]) ?_
   refine Ev.ite_pos (by omega) (Ev.ite_pos (by omega) (Ev.ite_pos (by omega) (Ev.ite_pos hy (Ev.bind T ?_))))
   exact Ev.congr (fun k => by rw [wrap_succ (by omega)]) (hr r next)
  | false =>
   have P := hY.step hN (by omega) (by omega) (b := false) (fun g => by rw [hy] at g; cases g) (fun _ => rfl)
   rw [cast] at P
   obtain ⟨Z, hZ, hr⟩ := ih (i + 1) _ (by omega) (by omega) P
   refine ⟨Z, hZ, fun r next => ?_⟩
   refine Ev.step (fun k => by rw [cycle_core.l1]) ?_
   refine Ev.ite_pos (by omega) (Ev.ite_pos (by omega) (Ev.ite_pos (by omega) (Ev.ite_neg (by rw [hy]; decide) ?_)))
   exact Ev.congr (fun k => by rw [wrap_succ (by omega)]) (hr r next)
theorem core_rounds (hg : GOk V ls) (hf : f.length = ls.length) (d : Nat) :
 ∀ (j : Nat) (X : List Bool), (j : Int) ≤ V → V.toNat - j = d → Core (net V ls) (rd f) X j → ∃ r : List Bool, Ev (fun k => cycle_core.l0 k f X V (j : Int) V ls) r ∧ Core (net V ls) (rd f) r V.toNat := by
 have hv2 := hg.v2
 have hv8 := hg.v8
 have hN := net_ok hg
 have hNV : ((net V ls).V : Int) = V := net_V (by omega)
 induction d with
 | zero =>
  intro j X hj hd hX
  obtain rfl : j = V.toNat := by omega
  refine ⟨X, ?_, hX⟩
  refine Ev.step (fun k => by rw [cycle_core.l0]) ?_
  exact Ev.ite_neg (by omega) (Ev.now _)
 | succ d ih =>
  intro j X hj hd hX
  have hl := hX.len
  have hl2 : (X.length : Int) = V := by rw [hl]; exact hNV
  have start : Peel (net V ls) (rd f) X X 0 := ⟨hl, hX.all, fun _ _ _ _ => rfl, .inr ⟨fun _ _ _ => rfl, fun v a b => by omega⟩⟩
  obtain ⟨Y, hY, eY⟩ := core_pick hg hf (j := (j : Int)) V.toNat 0 X (by omega) (by omega) start
  obtain ⟨r, R, C⟩ := ih (j + 1) Y (by omega) (by omega) (by
   have := hX.peel hN (Y := Y) (by rw [hNV]; exact hY)
   exact this)
  refine ⟨r, ?_, C⟩
  refine Ev.step (fun k => by rw [cycle_core.l0]) ?_
  refine Ev.ite_pos (by omega) ?_
  rw [hl2]
  refine eY r ?_
  exact Ev.congr (fun k => by rw [wrap_succ (by omega)]) R
theorem core_ev (hg : GOk V ls) (hf : f.length = ls.length) : ∃ X : List Bool, Ev (fun k => cycle_core.f k V ls f) X ∧ X.length = V.toNat ∧ closed (net V ls) (rd f) (rdOf false X) ∧
 ∀ Z : Int → Bool, closed (net V ls) (rd f) Z → ∀ v : Int, 0 ≤ v → v < V → Z v = true → rdOf false X v = true := by
 have hv2 := hg.v2
 have hv8 := hg.v8
 have hNV : ((net V ls).V : Int) = V := net_V (by omega)
 obtain ⟨X, E, C⟩ := core_rounds hg hf V.toNat 0 (List.replicate V.toNat true) (by omega) (by omega) Core.start
 refine ⟨X, ?_, C.len, C.closed, fun Z hZ v v0 v1 hz => C.all Z hZ v v0 (by rw [hNV]; exact v1) hz⟩
 unfold cycle_core.f
 refine Ev.call (a := List.replicate V.toNat true) ?_ E
 unfold slices_Repeat_bool_bool.f
 rw [if_pos ⟨rfl, by omega, by omega⟩]
 rfl
theorem indexB_loop (xs : List Bool) (hx : xs.length ≤ 17592186044416) (d : Nat) : ∀ (i : Nat), i ≤ xs.length → xs.length - i = d → (∀ j : Int, 0 ≤ j → j < (i : Int) → rdOf false xs j = false) →
 ∃ t : Int, Ev (fun k => slices_Index_bool_bool.l0 k xs true (xs.length : Int) (i : Int)) t ∧ ((t = -1 ∧ ∀ j : Int, 0 ≤ j → j < (xs.length : Int) → rdOf false xs j = false) ∨ (0 ≤ t ∧ t < (xs.length : Int) ∧ rdOf false xs t = true)) := by
 induction d with
 | zero =>
  intro i hi hd hp
  obtain rfl : i = xs.length := by omega
  refine ⟨-1, ?_, .inl ⟨rfl, hp⟩⟩
  refine Ev.step (fun k => by rw [slices_Index_bool_bool.l0]) ?_
  exact Ev.ite_neg (by omega) (Ev.now _)
 | succ d ih =>
  intro i hi hd hp
  cases e : rdOf false xs (i : Int) with
  | true =>
   refine ⟨(i : Int), ?_, .inr ⟨by omega, by omega, e⟩⟩
   refine Ev.step (fun k => by rw [slices_Index_bool_bool.l0]) ?_
   exact Ev.ite_pos (by omega) (Ev.ite_pos (by omega) (Ev.ite_pos (by omega) (Ev.ite_pos (by rw [e]; rfl) (Ev.now _))))
  | false =>
   obtain ⟨t, X, h⟩ := ih (i + 1) (by omega) (by omega) (fun j a b => by
    by_cases ej : j = (i : Int)
    · rw [ej]; exact e
    · exact hp j a (by omega))
   refine ⟨t, ?_, h⟩
   refine Ev.step (fun k => by rw [slices_Index_bool_bool.l0]) ?_
   refine Ev.ite_pos (by omega) (Ev.ite_pos (by omega) (Ev.ite_pos (by omega) (Ev.ite_neg (by rw [e]; decide) ?_)))
   exact Ev.congr (fun k => by rw [wrap_succ (by omega)]) X
theorem CloneK_eq {xs : List Int} (h : xs.length < 17592186044416) : slices_Clone_int_int.f xs = some xs := by
 unfold slices_Clone_int_int.f
 simp only [Option.bind_some]
 rw [if_pos (by simpa using h)]
 rfl
theorem find_walk (hg : GOk V ls) (hf : f.length = ls.length) {X : List Bool} (hX : X.length = V.toNat) (hc : closed (net V ls) (rd f) (rdOf false X)) {s : Int} (d : Nat) :
 ∀ (way : List Int) (last : Int), V.toNat - way.length = d → way.length < V.toNat + 1 → Trail (net V ls) s way last → (0 ≤ last ∧ last < V) → rdOf false X last = true → (∀ l ∈ way, 0 < rd f l) →
  (way.map (lA ls) ++ [last]).Nodup →
  ∃ p : List Int, Ev (fun k => cycle_find.l0 k f X way (way.map (lA ls) ++ [last]) V ls) p ∧ Cyc (net V ls) (rd f) p := by
 have hv2 := hg.v2
 have hv8 := hg.v8
 have hm := hg.m16
 have hN := net_ok hg
 have hNV : ((net V ls).V : Int) = V := net_V (by omega)
 have range : ∀ (way : List Int) (last : Int), Trail (net V ls) s way last → (0 ≤ last ∧ last < V) → ∀ x ∈ way.map (lA ls) ++ [last], 0 ≤ x ∧ x < (V.toNat : Int) := by
  intro way last ht hl x hx
  rcases List.mem_append.1 hx with hx | hx
  · obtain ⟨l, hl2, e⟩ := List.mem_map.1 hx
    have h1 := ht.mem l hl2
    have h2 := hg.end_ h1.1 h1.2
    rw [← e]; omega
  · rw [List.mem_singleton.1 hx]; omega
 induction d with
 | zero =>
  intro way last hd hw ht hl hx hfl hn
  exfalso
  have := nodup_le hn (range way last ht hl)
  rw [List.length_append, List.length_map, List.length_singleton] at this
  omega
 | succ d ih =>
  intro way last hd hw ht hl hx hfl hn
  obtain ⟨t, T, h⟩ := on_ev (V := V) (ls := ls) (f := f) (X := X) hg hf hX last
  have hb : (way.map (lA ls) ++ [last]).length = way.length + 1 := by rw [List.length_append, List.length_map, List.length_singleton]
  have hlast : rd (way.map (lA ls) ++ [last]) (((way.map (lA ls) ++ [last]).length : Int) - 1) = last := by
   have e : (((way.map (lA ls) ++ [last]).length : Int) - 1) = (((way.map (lA ls)).length : Nat) : Int) := by rw [hb, List.length_map]; omega
   rw [e]; exact rd_new
  rcases h with ⟨_, h2⟩ | ⟨h1, h2, h3, h4⟩
  · exact absurd (hc last hl.1 (by rw [hNV]; exact hl.2) hx) h2
  · have he := hg.end_ h1.1 h1.2
    have ht2 : Trail (net V ls) s (way ++ [t]) (lB ls t) := ht.app ⟨h1, h2, rfl⟩
    have hmap : (way ++ [t]).map (lA ls) = way.map (lA ls) ++ [last] := by rw [List.map_append, List.map_singleton, h2]
    have hfl2 : ∀ l ∈ way ++ [t], 0 < rd f l := by
     intro l hl2
     rcases List.mem_append.1 hl2 with hl2 | hl2
     · exact hfl l hl2
     · rw [List.mem_singleton.1 hl2]; exact h4
    obtain ⟨q, Q, hq⟩ := Index_ev (way.map (lA ls) ++ [last]) (lB ls t) (by omega)
    have hwl : (way ++ [t]).length = way.length + 1 := by rw [List.length_append, List.length_singleton]
    rcases hq with ⟨q1, q2⟩ | ⟨q1, q2, q3⟩
    · have hn2 : ((way ++ [t]).map (lA ls) ++ [lB ls t]).Nodup := by
       rw [hmap]
       rw [List.nodup_append]
       refine ⟨hn, by simp, fun a ha b hb2 e => ?_⟩
       rw [List.mem_singleton.1 hb2] at e
       rw [e] at ha
       exact q2 ha
      obtain ⟨p, P, C⟩ := ih (way ++ [t]) (lB ls t) (by omega) (by
       have := nodup_le hn2 (range _ _ ht2 he.2.1)
       rw [List.length_append, List.length_map, List.length_singleton] at this
       omega) ht2 he.2.1 h3 hfl2 hn2
      refine ⟨p, ?_, C⟩
      rw [hmap] at P
      refine Ev.step (fun k => by rw [cycle_find.l0]) ?_
      rw [wrap_id (by omega) (by omega), hlast]
      refine Ev.ite_pos (by omega) (Ev.ite_pos (by omega) (Ev.bind T (Ev.ite_pos (by omega) ?_)))
      refine Ev.call rfl ?_
      refine Ev.ite_pos h1.1 (Ev.ite_pos h1.2 (Ev.bind Q ?_))
      refine Ev.ite_neg (by omega) (Ev.ite_pos (by omega) ?_)
      exact P
    · have hk : q.toNat < (way ++ [t]).length := by omega
      have hget : (((way ++ [t]).map (net V ls).a).getD q.toNat 0) = lB ls t := by
       show ((way ++ [t]).map (lA ls)).getD q.toNat 0 = lB ls t
       rw [hmap]; exact q3
      have hnd : ((way ++ [t]).map (net V ls).a).Nodup := by
       show ((way ++ [t]).map (lA ls)).Nodup
       rw [hmap]; exact hn
      refine ⟨(way ++ [t]).drop q.toNat, ?_, walk_cyc ht2 hfl2 hnd hk hget⟩
      refine Ev.step (fun k => by rw [cycle_find.l0]) ?_
      rw [wrap_id (by omega) (by omega), hlast]
      refine Ev.ite_pos (by omega) (Ev.ite_pos (by omega) (Ev.bind T (Ev.ite_pos (by omega) ?_)))
      refine Ev.call rfl ?_
      refine Ev.ite_pos h1.1 (Ev.ite_pos h1.2 (Ev.bind Q ?_))
      refine Ev.ite_pos q1 (Ev.ite_pos q1 (Ev.ite_pos (by omega) ?_))
      refine Ev.call (CloneK_eq (by rw [List.length_drop]; omega)) (Ev.now _)
theorem find_ev (hg : GOk V ls) (hf : f.length = ls.length) : ∃ p : List Int, Ev (fun k => cycle_find.f k V ls f) p ∧ ((p = [] ∧ ∀ q, ¬ Rnd (net V ls) (rd f) q) ∨ Cyc (net V ls) (rd f) p) := by
 have hv2 := hg.v2
 have hv8 := hg.v8
 have hN := net_ok hg
 have hNV : ((net V ls).V : Int) = V := net_V (by omega)
 obtain ⟨X, E, hX, hc, hall⟩ := core_ev hg hf
 obtain ⟨t, T, h⟩ := indexB_loop X (by omega) X.length 0 (by omega) (by omega) (fun j a b => by omega)
 rcases h with ⟨h1, h2⟩ | ⟨h1, h2, h3⟩
 · refine ⟨[], ?_, .inl ⟨rfl, fun q hq => ?_⟩⟩
   · unfold cycle_find.f
     refine Ev.bind E (Ev.bind T (Ev.ite_pos (by omega) (Ev.now _)))
   · obtain ⟨v, v0, v1, hv⟩ := rnd_some hN hq
     have := hall _ (rnd_set hq) v v0 (by rw [← hNV]; exact v1) hv
     rw [h2 v v0 (by omega)] at this
     cases this
 · obtain ⟨p, P, C⟩ := find_walk hg hf hX hc (s := t) V.toNat [] t (by simp) (by simp) rfl ⟨h1, by omega⟩ h3 (fun l hl => by cases hl) (by simp)
   refine ⟨p, ?_, .inr C⟩
   unfold cycle_find.f
   exact Ev.bind E (Ev.bind T (Ev.ite_neg (by omega) P))
end
theorem IsLeast.next {x z : Int} {xs : List Int} {i : Nat} (h : IsLeast z (x :: xs.take i)) (hl : i < xs.length) : IsLeast (mn z (rd xs (i : Int))) (x :: xs.take (i + 1)) := by
 have e : rd xs (i : Int) = xs[i] := by
  unfold rd
  rw [Int.toNat_natCast, List.getD_eq_getElem?_getD, List.getElem?_eq_getElem hl]; rfl
 rw [List.take_succ_eq_append_getElem hl, ← e]
 have hmn : (mn z (rd xs (i : Int)) = z ∧ z ≤ rd xs (i : Int)) ∨ (mn z (rd xs (i : Int)) = rd xs (i : Int) ∧ rd xs (i : Int) ≤ z) := by unfold mn; omega
 constructor
 · rcases hmn with ⟨g, _⟩ | ⟨g, _⟩
   · rw [g]
     rcases List.mem_cons.1 h.mem with q | q
     · rw [q]; exact List.mem_cons_self
     · exact List.mem_cons_of_mem _ (List.mem_append.2 (.inl q))
   · rw [g]; exact List.mem_cons_of_mem _ (List.mem_append.2 (.inr (by simp)))
 · intro y hy
   rcases List.mem_cons.1 hy with q | q
   · have := h.le y (by rw [q]; exact List.mem_cons_self)
     omega
   · rcases List.mem_append.1 q with q | q
     · have := h.le y (List.mem_cons_of_mem _ q)
       omega
     · rw [List.mem_singleton.1 q]; omega
theorem least_loop (xs : List Int) (hx : xs.length ≤ 17592186044416) (x : Int) (d : Nat) : ∀ (i : Nat) (z : Int), i ≤ xs.length → xs.length - i = d → IsLeast z (x :: xs.take i) →
 ∃ r : Int, Ev (fun k => rate_Least.l0 k z xs (xs.length : Int) (i : Int)) r ∧ IsLeast r (x :: xs) := by
 induction d with
 | zero =>
  intro i z hi hd h
  obtain rfl : i = xs.length := by omega
  rw [List.take_length] at h
  refine ⟨z, ?_, h⟩
  refine Ev.step (fun k => by rw [rate_Least.l0]) ?_
  exact Ev.ite_neg (by omega) (Ev.now _)
 | succ d ih =>
  intro i z hi hd h
  obtain ⟨r, X, g⟩ := ih (i + 1) _ (by omega) (by omega) (h.next (by omega))
  refine ⟨r, ?_, g⟩
  refine Ev.step (fun k => by rw [rate_Least.l0]) ?_
  refine Ev.ite_pos (by omega) (Ev.ite_pos (by omega) (Ev.ite_pos (by omega) ?_))
  exact Ev.congr (fun k => by rw [wrap_succ (by omega)]) X
theorem Least_ev (x : Int) (xs : List Int) (hx : xs.length ≤ 17592186044416) : ∃ r : Int, Ev (fun k => rate_Least.f k x xs) r ∧ IsLeast r (x :: xs) :=
 least_loop xs hx x xs.length 0 x (by omega) (by omega) ⟨by simp, fun y hy => by simp at hy; omega⟩
theorem take_map_rd (f : List Int) (way : List Int) {i : Nat} (h : i < way.length) : (way.take i).map (rd f) ++ [rd f (rd way (i : Int))] = (way.take (i + 1)).map (rd f) := by
 rw [List.take_succ_eq_append_getElem h, List.map_append]
 have e : rd way (i : Int) = way[i] := by
  unfold rd
  rw [Int.toNat_natCast, List.getD_eq_getElem?_getD, List.getElem?_eq_getElem h]; rfl
 rw [e]; rfl
theorem along_loop (f way : List Int) (hw : way.length ≤ 4096) (h : ∀ l ∈ way, 0 ≤ l ∧ l < (f.length : Int)) (d : Nat) : ∀ (i : Nat), i ≤ way.length → way.length - i = d →
 Ev (fun k => cycle_along.l0 k f ((way.take i).map (rd f)) way (way.length : Int) (i : Int)) (way.map (rd f)) := by
 induction d with
 | zero =>
  intro i hi hd
  obtain rfl : i = way.length := by omega
  refine Ev.step (fun k => by rw [cycle_along.l0]) ?_
  rw [List.take_length]
  exact Ev.ite_neg (by omega) (Ev.now _)
 | succ d ih =>
  intro i hi hd
  have hm := h (rd way (i : Int)) (rd_mem (by omega) (by omega))
  refine Ev.step (fun k => by rw [cycle_along.l0]) ?_
  refine Ev.ite_pos (by omega) (Ev.ite_pos (by omega) (Ev.ite_pos (by omega) (Ev.ite_pos hm.1 (Ev.ite_pos hm.2 (Ev.ite_pos (by rw [List.length_map, List.length_take]; omega) ?_)))))
  rw [take_map_rd f way (by omega)]
  exact Ev.congr (fun k => by rw [wrap_succ (by omega)]) (ih (i + 1) (by omega) (by omega))
theorem along_ev (f way : List Int) (hw : way.length ≤ 4096) (h : ∀ l ∈ way, 0 ≤ l ∧ l < (f.length : Int)) : Ev (fun k => cycle_along.f k f way) (way.map (rd f)) :=
 along_loop f way hw h way.length 0 (by omega) (by omega)
def subL (o : List Int) (y : Int) : List Int → List Int
 | [] => o
 | l :: p => subL (o.set l.toNat (rd o l - y)) y p
theorem subL_len (y : Int) (p : List Int) : ∀ o : List Int, (subL o y p).length = o.length := by
 induction p with
 | nil => intro o; rfl
 | cons l p ih =>
  intro o
  show (subL (o.set l.toNat (rd o l - y)) y p).length = _
  rw [ih, List.length_set]
theorem less_congr (y : Int) (p : List Int) : ∀ {f g : Int → Int}, (∀ i : Int, 0 ≤ i → f i = g i) → (∀ l ∈ p, 0 ≤ l) → ∀ i : Int, 0 ≤ i → lessAll f y p i = lessAll g y p i := by
 induction p with
 | nil => intro f g h _ i i0; exact h i i0
 | cons l p ih =>
  intro f g h hp i i0
  show lessAll (upd f l (f l - y)) y p i = lessAll (upd g l (g l - y)) y p i
  refine ih (fun j j0 => ?_) (fun k hk => hp k (List.mem_cons_of_mem _ hk)) i i0
  unfold upd
  by_cases e : j = l
  · rw [if_pos e, if_pos e, h l (hp l List.mem_cons_self)]
  · rw [if_neg e, if_neg e]; exact h j j0
theorem subL_rd (y : Int) (p : List Int) : ∀ o : List Int, (∀ l ∈ p, 0 ≤ l ∧ l < (o.length : Int)) → ∀ i : Int, 0 ≤ i → rd (subL o y p) i = lessAll (rd o) y p i := by
 induction p with
 | nil => intro o _ i _; rfl
 | cons l p ih =>
  intro o hp i i0
  have hl := hp l List.mem_cons_self
  show rd (subL (o.set l.toNat (rd o l - y)) y p) i = lessAll (upd (rd o) l (rd o l - y)) y p i
  rw [ih _ (fun k hk => by rw [List.length_set]; exact hp k (List.mem_cons_of_mem _ hk)) i i0]
  refine less_congr y p (fun j j0 => ?_) (fun k hk => (hp k (List.mem_cons_of_mem _ hk)).1) i i0
  rw [rd_set hl.1 hl.2 j0]; rfl
theorem cancel_sub {V : Int} {ls : List S53} {y : Int} (y0 : 0 ≤ y) (way : List Int) (hw : way.length ≤ 4096) (hn : way.Nodup) {r : List Int × Int} (d : Nat) :
 ∀ (i : Nat) (o : List Int), i ≤ way.length → way.length - i = d → (∀ l ∈ way.drop i, (0 ≤ l ∧ l < (o.length : Int)) ∧ y ≤ rd o l ∧ rd o l ≤ 4611686018427387904) →
  Ev (fun k => (cycle_find.f k V ls (subL o y (way.drop i))).bind fun t => cycle_Cancel.l0 k (subL o y (way.drop i)) t V ls) r →
  Ev (fun k => cycle_Cancel.l1 k o y way (way.length : Int) (i : Int) V ls) r := by
 induction d with
 | zero =>
  intro i o hi hd h next
  obtain rfl : i = way.length := by omega
  rw [List.drop_length] at next
  refine Ev.step (fun k => by rw [cycle_Cancel.l1]) ?_
  exact Ev.ite_neg (by omega) next
 | succ d ih =>
  intro i o hi hd h next
  have hdr := drop_rd (xs := way) (i := i) (by omega)
  rw [hdr] at h next
  have hl := h (rd way (i : Int)) List.mem_cons_self
  have hnd : (rd way (i : Int) :: way.drop (i + 1)).Nodup := by rw [← hdr]; exact hn.sublist (List.drop_sublist _ _)
  have hni := (List.nodup_cons.1 hnd).1
  refine Ev.step (fun k => by rw [cycle_Cancel.l1]) ?_
  refine Ev.ite_pos (by omega) (Ev.ite_pos (by omega) (Ev.ite_pos (by omega) (Ev.ite_pos hl.1.1 (Ev.ite_pos hl.1.2 ?_))))
  have X := ih (i + 1) (o.set (rd way (i : Int)).toNat (rd o (rd way (i : Int)) - y)) (by omega) (by omega) (fun l hl2 => by
   have h3 := h l (List.mem_cons_of_mem _ hl2)
   rw [List.length_set, rd_set hl.1.1 hl.1.2 h3.1.1, if_neg (fun e => hni (by rw [← e]; exact hl2))]
   exact h3) next
  exact Ev.congr (fun k => by rw [wrap_succ (by omega), wrap_id (x := rd o (rd way (i : Int)) - y) (by omega) (by omega)]) X
structure Left (N : Net) (f a : List Int) : Prop where
 len : a.length = f.length
 le : ∀ i : Int, 0 ≤ i → i < (f.length : Int) → 0 ≤ rd a i ∧ rd a i ≤ rd f i
 gain : ∀ v : Int, gain N (rd a) v = gain N (rd f) v
 none : ∀ q, ¬ Rnd N (rd a) q
 same : (∀ q, ¬ Rnd N (rd f) q) → a = f
theorem cancel_rounds {V : Int} {ls : List S53} {f : List Int} (h : Fine V ls f) (d : Nat) :
 ∀ (o p : List Int), flows ls.length (rd o) ≤ d → o.length = f.length → (∀ i : Int, 0 ≤ i → i < (f.length : Int) → 0 ≤ rd o i ∧ rd o i ≤ rd f i) → (∀ v : Int, gain (net V ls) (rd o) v = gain (net V ls) (rd f) v) →
  ((∀ q, ¬ Rnd (net V ls) (rd f) q) → o = f) → ((p = [] ∧ ∀ q, ¬ Rnd (net V ls) (rd o) q) ∨ Cyc (net V ls) (rd o) p) →
  ∃ a : List Int, Ev (fun k => cycle_Cancel.l0 k o p V ls) (a, 0) ∧ Left (net V ls) f a := by
 have hm := h.g.m16
 have hfl := h.len
 induction d with
 | zero =>
  intro o p hd hol hle hg hs hp
  rcases hp with ⟨rfl, hn⟩ | hc
  · refine ⟨o, ?_, ⟨hol, hle, hg, hn, hs⟩⟩
    refine Ev.step (fun k => by rw [cycle_Cancel.l0]) ?_
    exact Ev.ite_neg (by simp) (Ev.now _)
  · exfalso
    obtain ⟨u, t⟩ := hc.round
    cases p with
    | nil => exact hc.ne rfl
    | cons l p =>
     have h1 := t.1
     have h2 := cnt_lt (V := ls.length) (P := fun _ => false) (Q := fun i => decide (0 < rd o i)) (fun _ _ _ g => by cases g) h1.1 h1.2 rfl (decide_eq_true (hc.flow l List.mem_cons_self))
     have h3 := cnt_nonneg ls.length (fun _ => false)
     unfold flows at hd
     omega
 | succ d ih =>
  intro o p hd hol hle hg hs hp
  rcases hp with ⟨rfl, hn⟩ | hc
  · refine ⟨o, ?_, ⟨hol, hle, hg, hn, hs⟩⟩
    refine Ev.step (fun k => by rw [cycle_Cancel.l0]) ?_
    exact Ev.ite_neg (by simp) (Ev.now _)
  · obtain ⟨u, t⟩ := hc.round
    have hmem : ∀ l ∈ p, 0 ≤ l ∧ l < (o.length : Int) := fun l hl => by
     have := t.mem l hl
     rw [net_m] at this
     omega
    have hnd := hc.nodup
    have hpl : p.length ≤ 16 := by
     have := nodup_le (V := ls.length) hnd (fun l hl => t.mem l hl)
     omega
    have hp0 : 0 < p.length := List.length_pos_iff.2 hc.ne
    have big : ∀ i : Int, 0 ≤ i → i < (f.length : Int) → rd o i ≤ 4611686018427387904 := fun i a b => by
     have h1 := (hle i a b).2
     have h2 := (h.le i a (by omega)).2
     have h3 := h.g.cap_le (i := i) a (by omega)
     omega
    obtain ⟨y, Y, hy⟩ := Least_ev 4611686018427387904 (p.map (rd o)) (by rw [List.length_map]; omega)
    have hyle : ∀ l ∈ p, y ≤ rd o l := fun l hl => hy.le _ (List.mem_cons_of_mem _ (List.mem_map.2 ⟨l, hl, rfl⟩))
    have hyat : ∃ l ∈ p, rd o l = y := by
     rcases List.mem_cons.1 hy.mem with e | e
     · obtain ⟨l, hl⟩ := List.exists_mem_of_length_pos hp0
       refine ⟨l, hl, ?_⟩
       have h1 := hyle l hl
       have h2 := hmem l hl
       have h3 := big l h2.1 (by omega)
       omega
     · obtain ⟨l, hl, e⟩ := List.mem_map.1 e
       exact ⟨l, hl, e⟩
    have y0 : 0 < y := by
     obtain ⟨l, hl, e⟩ := hyat
     have := hc.flow l hl
     omega
    obtain ⟨g1, g2, g3⟩ := hc.less y0 hyle hyat
    have hrd : ∀ i : Int, 0 ≤ i → rd (subL o y p) i = lessAll (rd o) y p i := subL_rd y p o hmem
    have hfl2 : (subL o y p).length = ls.length := by rw [subL_len]; omega
    have hle2 : ∀ i : Int, 0 ≤ i → i < (f.length : Int) → 0 ≤ rd (subL o y p) i ∧ rd (subL o y p) i ≤ rd f i := fun i a b => by
     rw [hrd i a]
     have h1 := hle i a b
     have h2 := g2 i
     have h3 := h2.1 h1.1
     omega
    have hg2 : ∀ v : Int, gain (net V ls) (rd (subL o y p)) v = gain (net V ls) (rd f) v := fun v => by
     rw [gain_congr (f := rd (subL o y p)) (g := lessAll (rd o) y p) (fun i a b => hrd i a) v, g1 v]
     exact hg v
    have hfl3 : flows ls.length (rd (subL o y p)) + 1 ≤ flows ls.length (rd o) := by
     have e : flows ls.length (rd (subL o y p)) = flows ls.length (lessAll (rd o) y p) := by
      unfold flows cnt
      refine S_congr (fun i a b => ?_)
      show (if decide (0 < rd (subL o y p) i) = true then (1 : Int) else 0) = (if decide (0 < lessAll (rd o) y p i) = true then (1 : Int) else 0)
      rw [hrd i a]
     rw [e]; exact g3
    have hs2 : (∀ q, ¬ Rnd (net V ls) (rd f) q) → subL o y p = f := by
     intro hn
     have e := hs hn
     rw [e] at hc
     exact absurd hc.toRnd (hn p)
    obtain ⟨p2, P2, c2⟩ := find_ev h.g hfl2
    obtain ⟨a, A, L⟩ := ih (subL o y p) p2 (by omega) (by rw [subL_len]; exact hol) hle2 hg2 hs2 c2
    refine ⟨a, ?_, L⟩
    refine Ev.step (fun k => by rw [cycle_Cancel.l0]) ?_
    refine Ev.ite_pos (by omega) (Ev.bind (along_ev o p (by omega) hmem) (Ev.bind Y ?_))
    refine cancel_sub (Int.le_of_lt y0) p (by omega) hnd p.length 0 o (by omega) (by omega) (fun l hl => ?_) ?_
    · rw [List.drop_zero] at hl
      have h2 := hmem l hl
      exact ⟨h2, hyle l hl, big l h2.1 (by omega)⟩
    · rw [List.drop_zero]
      exact Ev.bind P2 A
theorem lies_ev (V : Int) (ls : List S53) (f : List Int) (hl : ls.length ≤ 17592186044416) : Ev (fun k => cycle_lies.f k V ls f) (decide (Fine V ls f)) := by
 unfold cycle_lies.f
 refine Ev.bind (graph_Caps_ev V ls hl) (Ev.bind (stream_Lies_ev V ls _ f) ?_)
 have e : decide (CapsOk V ls (ls.map (·.f2)) ∧ Win (ls.map (·.f2)) f) = decide (Fine V ls f) := by
  by_cases h : Fine V ls f
  · rw [decide_eq_true h, decide_eq_true ((fine_iff V ls f).2 h)]
  · rw [decide_eq_false h, decide_eq_false (fun g => h ((fine_iff V ls f).1 g))]
 rw [e]
 exact Ev.now _
theorem Cancel_ev {V : Int} {ls : List S53} {f : List Int} (h : Fine V ls f) : ∃ a : List Int, Ev (fun k => cycle_Cancel.f k V ls f) (a, 0) ∧ Left (net V ls) f a := by
 have hm := h.g.m16
 have hfl := h.len
 obtain ⟨p, P, c⟩ := find_ev h.g hfl
 obtain ⟨a, A, L⟩ := cancel_rounds h (flows ls.length (rd f)).toNat f p (by
  have : 0 ≤ flows ls.length (rd f) := cnt_nonneg _ _
  omega) rfl (fun i a b => ⟨(h.le i a (by omega)).1, Int.le_refl _⟩) (fun v => rfl) (fun _ => rfl) c
 refine ⟨a, ?_, L⟩
 unfold cycle_Cancel.f
 refine Ev.bind (lies_ev V ls f (by omega)) (Ev.ite_pos (decide_eq_true h) ?_)
 exact Ev.call (CloneK_eq (by omega)) (Ev.bind P A)
theorem closed_rnd {V : Int} {ls : List S53} {f : List Int} (hg : GOk V ls) (hf : f.length = ls.length) {Z : Int → Bool} (hZ : closed (net V ls) (rd f) Z) {v : Int} (v0 : 0 ≤ v) (v1 : v < V) (hv : Z v = true) : ∃ q, Rnd (net V ls) (rd f) q := by
 have hv2 := hg.v2
 have hv8 := hg.v8
 obtain ⟨X, E, hX, hc, hall⟩ := core_ev hg hf
 obtain ⟨p, P, C⟩ := find_walk hg hf hX hc (s := v) V.toNat [] v (by simp) (by simp) rfl ⟨v0, v1⟩ (hall Z hZ v v0 v1 hv) (fun l hl => by cases hl) (by simp)
 exact ⟨p, C.toRnd⟩
theorem Fine.swl {V : Int} {ls : List S53} {f : List Int} (h : Fine V ls f) : Fine V (ls.map swl) f :=
 ⟨h.g.swl, by rw [List.length_map]; exact h.len, fun i a b => by
  rw [List.length_map] at b
  rw [lC_swl]; exact h.le i a b⟩
theorem net_swl14 (V : Int) (ls : List S53) : net V (ls.map swl) = (net V ls).turn := by
 unfold net Net.turn
 rw [lA_swl, lB_swl, List.length_map]
theorem rnd_swl {V : Int} {ls : List S53} {f : List Int} (h : Fine V ls f) : (∃ q, Rnd (net V ls) (rd f) q) → ∃ q, Rnd (net V (ls.map swl)) (rd f) q := by
 rintro ⟨q, hq⟩
 have hN := net_ok h.g
 have hNV : ((net V ls).V : Int) = V := net_V (by have := h.g.v2; omega)
 obtain ⟨v, v0, v1, hv⟩ := rnd_some hN hq
 have hc : closed (net V (ls.map swl)) (rd f) (meets (net V ls) q) := by rw [net_swl14]; exact rnd_set_turn hq
 exact closed_rnd h.g.swl (by rw [List.length_map]; exact h.len) hc v0 (by rw [← hNV]; exact v1) hv
theorem swl_swl (ls : List S53) : (ls.map swl).map swl = ls := by
 rw [List.map_map]
 have e : (swl ∘ swl) = id := by funext x; rfl
 rw [e, List.map_id]
theorem rnd_swl_iff {V : Int} {ls : List S53} {f : List Int} (h : Fine V ls f) : (∃ q, Rnd (net V ls) (rd f) q) ↔ ∃ q, Rnd (net V (ls.map swl)) (rd f) q := by
 refine ⟨rnd_swl h, fun g => ?_⟩
 have := rnd_swl (Fine.swl h) g
 rw [swl_swl] at this
 exact this
section
variable {V : Int} {ls : List S53}
end
theorem nodup_rd {xs : List Int} (h : xs.Nodup) : ∀ i j : Int, 0 ≤ i → i < j → j < (xs.length : Int) → rd xs i ≠ rd xs j := by
 induction xs with
 | nil => intro i j i0 ij jl; simp at jl; omega
 | cons x xs ih =>
  intro i j i0 ij jl
  have hn := List.nodup_cons.1 h
  rw [List.length_cons] at jl
  have ej : rd (x :: xs) j = rd xs (j - 1) := by
   have := rd_succ_cons (x := x) (xs := xs) (i := j - 1) (by omega)
   rwa [show j - 1 + 1 = j by omega] at this
  rw [ej]
  by_cases e : i = 0
  · rw [e, rd_zero_cons]
    intro g
    exact hn.1 (by rw [g]; exact rd_mem (by omega) (by omega))
  · have ei : rd (x :: xs) i = rd xs (i - 1) := by
     have := rd_succ_cons (x := x) (xs := xs) (i := i - 1) (by omega)
     rwa [show i - 1 + 1 = i by omega] at this
    rw [ei]
    exact ih hn.2 (i - 1) (j - 1) (by omega) (by omega) (by omega)
section
variable {V : Int} {ls : List S53} {f p : List Int}
end
theorem out_pos {N : Net} {f : Int → Int} {v : Int} (f0 : ∀ i : Int, 0 ≤ i → i < (N.m : Int) → 0 ≤ f i) (g : 0 ≤ gain N f v) {j : Int} (j0 : 0 ≤ j) (j1 : j < (N.m : Int)) (hj : N.b j = v) (ha : N.a j ≠ v) (hp : 0 < f j) :
 ∃ i : Int, 0 ≤ i ∧ i < (N.m : Int) ∧ N.a i = v ∧ 0 < f i := by
 by_cases c : ∃ i : Int, 0 ≤ i ∧ i < (N.m : Int) ∧ N.a i = v ∧ 0 < f i
 · exact c
 · exfalso
   have h1 := S_one_le (m := N.m) (f := fun i => (if N.b i = v then f i else 0) - (if N.a i = v then f i else 0)) (k := j) (fun i i0 i1 => by
    have := f0 i i0 i1
    by_cases e : N.a i = v
    · have : f i = 0 := by
       by_cases q : 0 < f i
       · exact absurd ⟨i, i0, i1, e, q⟩ c
       · omega
      rw [if_pos e]; split <;> omega
    · rw [if_neg e]; split <;> omega) j0 j1
   have h2 : (if N.b j = v then f j else 0) - (if N.a j = v then f j else 0) = f j := by rw [if_pos hj, if_neg ha]; omega
   have h3 : S N.m (fun i => (if N.b i = v then f i else 0) - (if N.a i = v then f i else 0)) + gain N f v = 0 := by
    unfold gain
    rw [← S_add, ← S_zero N.m]
    exact S_congr (fun i _ _ => by omega)
   rw [h2] at h1
   omega
theorem inn_pos {N : Net} {f : Int → Int} {v : Int} (f0 : ∀ i : Int, 0 ≤ i → i < (N.m : Int) → 0 ≤ f i) (g : gain N f v ≤ 0) {j : Int} (j0 : 0 ≤ j) (j1 : j < (N.m : Int)) (hj : N.a j = v) (ha : N.b j ≠ v) (hp : 0 < f j) :
 ∃ i : Int, 0 ≤ i ∧ i < (N.m : Int) ∧ N.b i = v ∧ 0 < f i :=
 out_pos (N := N.turn) (f := f) (v := v) f0 (by rw [gain_turn]; omega) j0 j1 hj ha hp
structure Lies15 (V : Int) (ls : List S53) (s t : Int) (f : List Int) : Prop where
 g : GOk V ls
 len : f.length = ls.length
 pos : ∀ i : Int, 0 ≤ i → i < (ls.length : Int) → 0 ≤ rd f i
 top : ∀ i : Int, 0 ≤ i → i < (ls.length : Int) → rd f i ≤ lC ls i
 vs : 0 ≤ s ∧ s < V
 vt : 0 ≤ t ∧ t < V
 ne : s ≠ t
 keep : ∀ v : Int, 0 ≤ v → v < V → v ≠ s → v ≠ t → gain (net V ls) (rd f) v = 0
 none : ∀ q, ¬ Rnd (net V ls) (rd f) q
section
variable {V : Int} {ls : List S53} {s t : Int} {f : List Int}
theorem Lies15.fine (h : Lies15 V ls s t f) : Fine V ls f := ⟨h.g, h.len, fun i a b => ⟨h.pos i a b, h.top i a b⟩⟩
theorem Lies15.sink (h : Lies15 V ls s t f) : gain (net V ls) (rd f) t = - gain (net V ls) (rd f) s := by
 have hv2 := h.g.v2
 have hNV : ((net V ls).V : Int) = V := net_V (by omega)
 have z := gains_zero (net V ls) h.g.ends (rd f)
 have e : S (net V ls).V (fun v => gain (net V ls) (rd f) v) = S (net V ls).V (fun v => (if v = s then gain (net V ls) (rd f) s else 0) + (if v = t then gain (net V ls) (rd f) t else 0)) := by
  refine S_congr (fun v a b => ?_)
  by_cases es : v = s
  · subst es; have := h.ne; simp [this]
  · by_cases et : v = t
    · subst et; simp [es]
    · rw [h.keep v a (by omega) es et]; simp [es, et]
 have vs := h.vs
 have vt := h.vt
 rw [e, S_add, S_single _ _ _ vs.1 (by omega), S_single _ _ _ vt.1 (by omega)] at z
 omega
theorem Lies15.source (h : Lies15 V ls s t f) (g0 : 0 ≤ gain (net V ls) (rd f) s) : ∀ i : Int, 0 ≤ i → i < (ls.length : Int) → lB ls i = s → rd f i = 0 := by
 intro i i0 i1 hi
 have hv2 := h.g.v2
 by_cases q : 0 < rd f i
 · exfalso
   have hs := h.sink
   have f0 : ∀ i : Int, 0 ≤ i → i < ((net V ls).m : Int) → 0 ≤ rd f i := h.pos
   have cl : closed (net V (ls.map swl)) (rd f) (fun v => decide (∃ j : Int, 0 ≤ j ∧ j < (ls.length : Int) ∧ lA ls j = v ∧ 0 < rd f j)) := by
    intro v v0 v1 hv
    have hNV : ((net V (ls.map swl)).V : Int) = V := net_V (by omega)
    obtain ⟨j, j0, j1, ja, jp⟩ := of_decide_eq_true hv
    have je := h.g.end_ (i := j) j0 j1
    have into : ∃ i : Int, 0 ≤ i ∧ i < (ls.length : Int) ∧ lB ls i = v ∧ 0 < rd f i := by
     by_cases es : v = s
     · exact ⟨i, i0, i1, by rw [es]; exact hi, q⟩
     · have gv : gain (net V ls) (rd f) v ≤ 0 := by
        by_cases et : v = t
        · rw [et, hs]; omega
        · rw [h.keep v v0 (by omega) es et]; exact Int.le_refl _
       exact inn_pos (N := net V ls) f0 gv j0 j1 ja (fun e => je.2.2 (by rw [ja]; exact e.symm)) jp
    obtain ⟨k, k0, k1, kb, kp⟩ := into
    have ke := h.g.end_ (i := k) k0 k1
    refine ⟨k, k0, by show k < (((ls.map swl).length : Nat) : Int); rw [List.length_map]; exact k1, ?_, ?_, kp⟩
    · show lA (ls.map swl) k = v
      rw [lA_swl]; exact kb
    · show decide (∃ j : Int, 0 ≤ j ∧ j < (ls.length : Int) ∧ lA ls j = lB (ls.map swl) k ∧ 0 < rd f j) = true
      rw [lB_swl]
      exact decide_eq_true ⟨k, k0, k1, rfl, kp⟩
   have ie := h.g.end_ (i := i) i0 i1
   have r := closed_rnd h.g.swl (by rw [List.length_map]; exact h.len) cl ie.1.1 ie.1.2 (decide_eq_true ⟨i, i0, i1, rfl, q⟩)
   obtain ⟨p, hp⟩ := (rnd_swl_iff h.fine).2 r
   exact h.none p hp
 · have := h.pos i i0 i1; omega
theorem Lies15.empty (h : Lies15 V ls s t f) (g0 : 0 ≤ gain (net V ls) (rd f) s) (no : ∀ i : Int, 0 ≤ i → i < (ls.length : Int) → ¬ (lA ls i = s ∧ 0 < rd f i)) : gain (net V ls) (rd f) s = 0 ∧ ∀ i : Int, 0 ≤ i → i < (ls.length : Int) → rd f i = 0 := by
 have hv2 := h.g.v2
 have hNV : ((net V ls).V : Int) = V := net_V (by omega)
 have src := h.source g0
 have f0 : ∀ i : Int, 0 ≤ i → i < ((net V ls).m : Int) → 0 ≤ rd f i := h.pos
 have gs : gain (net V ls) (rd f) s = 0 := by
  refine (S_congr (g := fun _ => 0) (fun i i0 i1 => ?_)).trans (S_zero _)
  have p := h.pos i i0 i1
  have e1 : (if (net V ls).a i = s then rd f i else 0) = 0 := by
   by_cases e : (net V ls).a i = s
   · rw [if_pos e]
     by_cases q : 0 < rd f i
     · exact absurd ⟨e, q⟩ (no i i0 i1)
     · omega
   · rw [if_neg e]
  have e2 : (if (net V ls).b i = s then rd f i else 0) = 0 := by
   by_cases e : (net V ls).b i = s
   · rw [if_pos e]; exact src i i0 i1 e
   · rw [if_neg e]
  rw [e1, e2]; rfl
 refine ⟨gs, fun i i0 i1 => ?_⟩
 have sk := h.sink
 by_cases q : 0 < rd f i
 · exfalso
   have cl : closed (net V ls) (rd f) (fun v => decide (∃ j : Int, 0 ≤ j ∧ j < (ls.length : Int) ∧ lB ls j = v ∧ 0 < rd f j)) := by
    intro v v0 v1 hv
    obtain ⟨j, j0, j1, jb, jp⟩ := of_decide_eq_true hv
    have je := h.g.end_ (i := j) j0 j1
    have gv : 0 ≤ gain (net V ls) (rd f) v := by
     by_cases es : v = s
     · rw [es, gs]; exact Int.le_refl _
     · by_cases et : v = t
       · rw [et, sk, gs]; decide
       · rw [h.keep v v0 (by omega) es et]; exact Int.le_refl _
    obtain ⟨k, k0, k1, ka, kp⟩ := out_pos (N := net V ls) f0 gv j0 j1 jb (fun e => je.2.2 (by rw [jb]; exact e)) jp
    exact ⟨k, k0, k1, ka, decide_eq_true ⟨k, k0, k1, rfl, kp⟩, kp⟩
   have ie := h.g.end_ (i := i) i0 i1
   obtain ⟨p, hp⟩ := closed_rnd h.g h.len cl ie.2.1.1 ie.2.1.2 (decide_eq_true ⟨i, i0, i1, rfl, q⟩)
   exact h.none p hp
 · have := h.pos i i0 i1; omega
theorem next_loop (hg : GOk V ls) (hf : f.length = ls.length) (v : Int) (d : Nat) : ∀ i : Nat, i ≤ ls.length → ls.length - i = d → (∀ j : Int, 0 ≤ j → j < (i : Int) → ¬ (lA ls j = v ∧ 0 < rd f j)) →
 ∃ r : Int, Ev (fun k => strand_next.l0 k f v ls (ls.length : Int) (i : Int)) r ∧ ((r = -1 ∧ ∀ j : Int, 0 ≤ j → j < (ls.length : Int) → ¬ (lA ls j = v ∧ 0 < rd f j)) ∨ ((0 ≤ r ∧ r < (ls.length : Int)) ∧ lA ls r = v ∧ 0 < rd f r)) := by
 have hm := hg.m16
 induction d with
 | zero =>
  intro i hi hd hp
  refine ⟨-1, ?_, .inl ⟨rfl, fun j a b => hp j a (by omega)⟩⟩
  refine Ev.step (fun k => by rw [strand_next.l0]) ?_
  exact Ev.ite_neg (by omega) (Ev.now _)
 | succ d ih =>
  intro i hi hd hp
  by_cases c : lA ls (i : Int) = v ∧ 0 < rd f (i : Int)
  · refine ⟨(i : Int), ?_, .inr ⟨⟨by omega, by omega⟩, c⟩⟩
    refine Ev.step (fun k => by rw [strand_next.l0]) ?_
    exact Ev.ite_pos (by omega) (Ev.ite_pos (by omega) (Ev.ite_pos (by omega) (Ev.ite_pos c.1 (Ev.ite_pos (by omega) (Ev.ite_pos c.2 (Ev.now _))))))
  · obtain ⟨r, X, q⟩ := ih (i + 1) (by omega) (by omega) (fun j a b => by
     by_cases e : j = (i : Int)
     · rw [e]; exact c
     · exact hp j a (by omega))
    have X2 : Ev (fun k => strand_next.l0 k f v ls (ls.length : Int) (wrap64 ((i : Int) + 1))) r := Ev.congr (fun k => by rw [wrap_succ (by omega)]) X
    refine ⟨r, ?_, q⟩
    refine Ev.step (fun k => by rw [strand_next.l0]) ?_
    refine Ev.ite_pos (by omega) (Ev.ite_pos (by omega) (Ev.ite_pos (by omega) ?_))
    by_cases e : lA ls (i : Int) = v
    · exact Ev.ite_pos e (Ev.ite_pos (by omega) (Ev.ite_neg (fun w => c ⟨e, w⟩) X2))
    · exact Ev.ite_neg e X2
theorem peel_l1 (f way : List Int) (hw : ∀ l ∈ way, 0 ≤ l ∧ l < (f.length : Int)) (hl : way.length ≤ 64) {R : Nat → Option (Int × List Int × Bool × List Int)} (d : Nat) : ∀ (i : Nat) (z : Int), i ≤ way.length → way.length - i = d → IsLeast z (4611686018427387904 :: (way.take i).map (rd f)) →
 ∃ y : Int, IsLeast y (4611686018427387904 :: way.map (rd f)) ∧ ∀ r, Ev (fun k => strand_peel.l2 k f way (way.length : Int) 0 y way) r → Ev (fun k => strand_peel.l1 k f way (way.length : Int) (i : Int) z way) r := by
 induction d with
 | zero =>
  intro i z hi hd hz
  obtain rfl : i = way.length := by omega
  rw [List.take_length] at hz
  refine ⟨z, hz, fun r X => ?_⟩
  refine Ev.step (fun k => by rw [strand_peel.l1]) ?_
  exact Ev.ite_neg (by omega) X
 | succ d ih =>
  intro i z hi hd hz
  have hil : i < way.length := by omega
  have hm := hw _ (rd_mem (xs := way) (i := (i : Int)) (by omega) (by omega))
  obtain ⟨x, E, lx⟩ := Least_ev z [rd f (rd way (i : Int))] (show 1 ≤ 17592186044416 by decide)
  have e1 : rd way (i : Int) = way[i] := by
   unfold rd
   rw [Int.toNat_natCast, List.getD_eq_getElem?_getD, List.getElem?_eq_getElem hil]; rfl
  have hx : IsLeast x (4611686018427387904 :: (way.take (i + 1)).map (rd f)) := by
   rw [List.take_succ_eq_append_getElem hil, List.map_append, List.map_singleton, ← e1]
   constructor
   · rcases List.mem_cons.1 lx.mem with q | q
     · rw [q]
       rcases List.mem_cons.1 hz.mem with w | w
       · rw [w]; exact List.mem_cons_self
       · exact List.mem_cons_of_mem _ (List.mem_append.2 (.inl w))
     · rw [List.mem_singleton.1 q]
       exact List.mem_cons_of_mem _ (List.mem_append.2 (.inr (by simp)))
   · intro y hy
     have h1 := lx.le z List.mem_cons_self
     rcases List.mem_cons.1 hy with q | q
     · have := hz.le y (by rw [q]; exact List.mem_cons_self); omega
     · rcases List.mem_append.1 q with q | q
       · have := hz.le y (List.mem_cons_of_mem _ q); omega
       · rw [List.mem_singleton.1 q]
         exact lx.le _ (List.mem_cons_of_mem _ (by simp))
  obtain ⟨y, ly, nx⟩ := ih (i + 1) x (by omega) (by omega) hx
  refine ⟨y, ly, fun r X => ?_⟩
  have X2 := nx r X
  refine Ev.step (fun k => by rw [strand_peel.l1]) ?_
  refine Ev.ite_pos (by omega) (Ev.ite_pos (by omega) (Ev.ite_pos (by omega) (Ev.ite_pos hm.1 (Ev.ite_pos hm.2 (Ev.bind E ?_)))))
  exact Ev.congr (fun k => by rw [wrap_succ (by omega)]) X2
theorem peel_l2 {y : Int} (y0 : 0 ≤ y) (way all : List Int) (hw : way.length ≤ 4096) (hn : way.Nodup) (d : Nat) :
 ∀ (i : Nat) (o : List Int), i ≤ way.length → way.length - i = d → (∀ l ∈ way.drop i, (0 ≤ l ∧ l < (o.length : Int)) ∧ y ≤ rd o l ∧ rd o l ≤ 4611686018427387904) →
  Ev (fun k => strand_peel.l2 k o way (way.length : Int) (i : Int) y all) (y, all, true, subL o y (way.drop i)) := by
 induction d with
 | zero =>
  intro i o hi hd h
  obtain rfl : i = way.length := by omega
  rw [List.drop_length]
  refine Ev.step (fun k => by rw [strand_peel.l2]) ?_
  exact Ev.ite_neg (by omega) (Ev.now _)
 | succ d ih =>
  intro i o hi hd h
  have hdr := drop_rd (xs := way) (i := i) (by omega)
  rw [hdr] at h ⊢
  have hl := h (rd way (i : Int)) List.mem_cons_self
  have hnd : (rd way (i : Int) :: way.drop (i + 1)).Nodup := by rw [← hdr]; exact hn.sublist (List.drop_sublist _ _)
  have hni := (List.nodup_cons.1 hnd).1
  refine Ev.step (fun k => by rw [strand_peel.l2]) ?_
  refine Ev.ite_pos (by omega) (Ev.ite_pos (by omega) (Ev.ite_pos (by omega) (Ev.ite_pos hl.1.1 (Ev.ite_pos hl.1.2 ?_))))
  have X := ih (i + 1) (o.set (rd way (i : Int)).toNat (rd o (rd way (i : Int)) - y)) (by omega) (by omega) (fun l hl2 => by
   have h3 := h l (List.mem_cons_of_mem _ hl2)
   rw [List.length_set, rd_set hl.1.1 hl.1.2 h3.1.1, if_neg (fun e => hni (by rw [← e]; exact hl2))]
   exact h3)
  exact Ev.congr (fun k => by rw [wrap_succ (by omega), wrap_id (x := rd o (rd way (i : Int)) - y) (by omega) (by omega)]) X
structure PathOn (N : Net) (f : Int → Int) (s t : Int) (p : List Int) : Prop where
 tr : Trail N s p t
 ne : p ≠ []
 once : (p.map N.a).Nodup
 off : t ∉ p.map N.a
 flow : ∀ l ∈ p, 0 < f l
theorem PathOn.nodup {N : Net} {g : Int → Int} {u w : Int} {p : List Int} (h : PathOn N g u w p) : p.Nodup := nodup_of_map h.once
theorem trail_last15 {N : Net} {p : List Int} {l : Int} : ∀ {u w : Int}, Trail N u (p ++ [l]) w → Trail N u p (N.a l) ∧ N.b l = w ∧ (0 ≤ l ∧ l < (N.m : Int)) := by
 intro u w h
 obtain ⟨v, h1, h2⟩ := h.split
 obtain ⟨r, e1, e2⟩ := h2
 rw [e1]
 exact ⟨h1, e2, r⟩
theorem peel_walk (h : Lies15 V ls s t f) (g0 : 0 ≤ gain (net V ls) (rd f) s) (d : Nat) :
 ∀ (way : List Int) (v : Int), Trail (net V ls) s way v → (way.map (net V ls).a).Nodup → v ∉ way.map (net V ls).a → (∀ l ∈ way, 0 < rd f l) → t ∉ way.map (net V ls).a → V - (way.length : Int) ≤ (d : Int) →
  (Ev (fun k => strand_peel.l0 k f t v V ls 0 way) (0, [], false, f) ∧ way = [] ∧ ∀ i : Int, 0 ≤ i → i < (ls.length : Int) → ¬ (lA ls i = s ∧ 0 < rd f i)) ∨
  (∃ (p : List Int) (y : Int), PathOn (net V ls) (rd f) s t p ∧ IsLeast y (4611686018427387904 :: p.map (rd f)) ∧ Ev (fun k => strand_peel.l0 k f t v V ls 0 way) (y, p, true, subL f y p)) := by
 have hv2 := h.g.v2
 have hv8 := h.g.v8
 have hm := h.g.m16
 have hNV : ((net V ls).V : Int) = V := net_V (by omega)
 have f0 : ∀ i : Int, 0 ≤ i → i < ((net V ls).m : Int) → 0 ≤ rd f i := h.pos
 have small : ∀ l : Int, 0 ≤ l → l < (ls.length : Int) → rd f l ≤ 4611686018427387904 := fun l a b => by have := h.top l a b; have := h.g.cap_le (i := l) a b; omega
 have vlen : ∀ (way : List Int) (v : Int), Trail (net V ls) s way v → (way.map (net V ls).a).Nodup → (way.length : Int) ≤ V := fun way v tr nd => by
  have := nodup_le (V := (net V ls).V) nd (fun x hx => by
   obtain ⟨l, hl, rfl⟩ := List.mem_map.1 hx
   have r := tr.mem l hl
   have := h.g.end_ (i := l) r.1 r.2
   exact ⟨this.1.1, by rw [hNV]; exact this.1.2⟩)
  rw [List.length_map] at this
  omega
 induction d with
 | zero =>
  intro way v tr nd nv fl nt hd
  -- one vertex more than there are
  exfalso
  have lv : 0 ≤ v ∧ v < V := by
   by_cases e : way = []
   · subst e
     have e2 : s = v := tr
     rw [← e2]; exact h.vs
   · obtain ⟨q, l, rfl⟩ := List.eq_nil_or_concat way |>.resolve_left e
     rw [List.concat_eq_append] at tr
     obtain ⟨_, e2, r⟩ := trail_last15 tr
     have := h.g.end_ (i := l) r.1 r.2
     rw [← e2]; exact this.2.1
  have := nodup_le (V := (net V ls).V) (p := v :: way.map (net V ls).a) (List.nodup_cons.2 ⟨nv, nd⟩) (fun x hx => by
   rcases List.mem_cons.1 hx with e | hx
   · rw [e, hNV]; exact lv
   · obtain ⟨l, hl, rfl⟩ := List.mem_map.1 hx
     have r := tr.mem l hl
     have := h.g.end_ (i := l) r.1 r.2
     exact ⟨this.1.1, by rw [hNV]; exact this.1.2⟩)
  rw [List.length_cons, List.length_map] at this
  omega
 | succ d ih =>
  intro way v tr nd nv fl nt hd
  have wl := vlen way v tr nd
  have inr : ∀ l ∈ way, 0 ≤ l ∧ l < (f.length : Int) := fun l hl => by rw [h.len]; exact tr.mem l hl
  by_cases e : v = t
  · refine .inr ?_
    subst e
    have wne : way ≠ [] := fun e => by subst e; exact h.ne tr
    obtain ⟨y, ly, nx⟩ := peel_l1 f way inr (by omega) (R := fun _ => none) way.length 0 4611686018427387904 (by omega) (by omega) ⟨by simp, fun x hx => by simp at hx; omega⟩
    have y0 : 0 ≤ y := by
     rcases List.mem_cons.1 ly.mem with q | q
     · omega
     · obtain ⟨l, hl, q2⟩ := List.mem_map.1 q
       have := fl l hl; omega
    have X := peel_l2 y0 way way (by omega) (nodup_of_map nd) way.length 0 f (by omega) (by omega) (fun l hl => by
     have hl2 := List.mem_of_mem_drop hl
     have r := inr l hl2
     exact ⟨r, ly.le _ (List.mem_cons_of_mem _ (List.mem_map_of_mem hl2)), small l r.1 (by rw [← h.len]; exact r.2)⟩)
    refine ⟨way, y, ⟨tr, wne, nd, nv, fl⟩, ly, ?_⟩
    refine Ev.step (fun k => by rw [strand_peel.l0]) ?_
    exact Ev.ite_pos rfl (nx _ X)
  · obtain ⟨r, E, q⟩ := next_loop h.g h.len v ls.length 0 (by omega) (by omega) (fun j a b => by omega)
    rcases q with ⟨rfl, no⟩ | ⟨r01, ra, rp⟩
    · -- none leads on: at the source alone
      have wn : way = [] := by
       by_cases w : way = []
       · exact w
       · exfalso
         obtain ⟨q, l, rfl⟩ := List.eq_nil_or_concat way |>.resolve_left w
         rw [List.concat_eq_append] at tr nv fl
         obtain ⟨_, e2, r⟩ := trail_last15 tr
         have le := h.g.end_ (i := l) r.1 r.2
         have lp := fl l (List.mem_append.2 (.inr (by simp)))
         have vs_ : v ≠ s := by
          intro e3
          refine nv ?_
          rw [e3]
          cases q with
          | nil => exact List.mem_map.2 ⟨l, by simp, tr.2.1⟩
          | cons a q => exact List.mem_map.2 ⟨a, by simp, tr.2.1⟩
         have gv : 0 ≤ gain (net V ls) (rd f) v := by
          rw [h.keep v (by rw [← e2]; exact le.2.1.1) (by rw [← e2]; exact le.2.1.2) vs_ e]; exact Int.le_refl _
         obtain ⟨i, i0, i1, ia, ip⟩ := out_pos (N := net V ls) f0 gv r.1 r.2 e2 (fun q => le.2.2 (by
          have : lA ls l = v := q
          rw [this]; exact e2.symm)) lp
         exact no i i0 i1 ⟨ia, ip⟩
      subst wn
      have es : s = v := tr
      refine .inl ⟨?_, rfl, by rw [es]; exact no⟩
      refine Ev.step (fun k => by rw [strand_peel.l0]) ?_
      exact Ev.ite_neg e (Ev.bind E (Ev.ite_pos (by decide) (Ev.now _)))
    · have re := h.g.end_ (i := r) r01.1 r01.2
      have tr2 : Trail (net V ls) s (way ++ [r]) (lB ls r) := tr.app ⟨r01, ra, rfl⟩
      have nd2 : ((way ++ [r]).map (net V ls).a).Nodup := by
       rw [List.map_append, List.map_singleton]
       refine List.nodup_append.2 ⟨nd, by simp, fun x hx y hy => ?_⟩
       rw [List.mem_singleton] at hy
       rw [hy, show (net V ls).a r = v from ra]
       intro e2
       exact nv (by rw [← e2]; exact hx)
      have fl2 : ∀ l ∈ way ++ [r], 0 < rd f l := fun l hl => by
       rcases List.mem_append.1 hl with hl | hl
       · exact fl l hl
       · rw [List.mem_singleton.1 hl]; exact rp
      have nt2 : t ∉ (way ++ [r]).map (net V ls).a := by
       rw [List.map_append, List.map_singleton, List.mem_append]
       rintro (q | q)
       · exact nt q
       · rw [List.mem_singleton, show (net V ls).a r = v from ra] at q
         exact e q.symm
      have nv2 : lB ls r ∉ (way ++ [r]).map (net V ls).a := by
       intro q
       obtain ⟨k, hk, ek⟩ := mem_gd 0 q
       rw [List.length_map] at hk
       exact h.none _ (walk_cyc tr2 fl2 nd2 hk ek).toRnd
      have hl2 : ((way ++ [r]).length : Int) = (way.length : Int) + 1 := by rw [List.length_append, List.length_singleton]; omega
      have lastr : rd (way ++ [r]) (way.length : Int) = r := rd_new
      have wi : wrap64 (((way ++ [r]).length : Int) - 1) = (way.length : Int) := by rw [hl2, wrap_id (by omega) (by omega)]; omega
      have head_ : ∀ {z : Int × List Int × Bool × List Int}, Ev (fun k => strand_peel.l0 k f t (lB ls r) V ls 0 (way ++ [r])) z → Ev (fun k => strand_peel.l0 k f t v V ls 0 way) z := by
       intro z Z
       refine Ev.step (fun k => by rw [strand_peel.l0]) ?_
       refine Ev.ite_neg e (Ev.bind E (Ev.ite_neg (by omega) (Ev.ite_pos (by omega) (Ev.call rfl ?_))))
       rw [wi, lastr]
       exact Ev.ite_pos (by omega) (Ev.ite_pos (by omega) (Ev.ite_pos r01.1 (Ev.ite_pos r01.2 Z)))
      rcases ih (way ++ [r]) (lB ls r) tr2 nd2 nv2 fl2 nt2 (by omega) with ⟨X, w, no⟩ | ⟨p, y, hp, ly, X⟩
      · exact absurd w (by simp)
      · exact .inr ⟨p, y, hp, ly, head_ X⟩
end
noncomputable def loadF : List S48 → Int → Int
 | [], _ => 0
 | p :: ps, i => (if i ∈ p.f1 then p.f0 else 0) + loadF ps i
def rateS : List S48 → Int
 | [] => 0
 | p :: ps => p.f0 + rateS ps
theorem loadF_app (ps qs : List S48) (i : Int) : loadF (ps ++ qs) i = loadF ps i + loadF qs i := by
 induction ps with
 | nil => show loadF qs i = 0 + loadF qs i; omega
 | cons p ps ih => show (if i ∈ p.f1 then p.f0 else 0) + loadF (ps ++ qs) i = _; rw [ih]; show _ = (if i ∈ p.f1 then p.f0 else 0) + loadF ps i + loadF qs i; omega
theorem rateS_app (ps qs : List S48) : rateS (ps ++ qs) = rateS ps + rateS qs := by
 induction ps with
 | nil => show rateS qs = 0 + rateS qs; omega
 | cons p ps ih => show p.f0 + rateS (ps ++ qs) = _; rw [ih]; show _ = p.f0 + rateS ps + rateS qs; omega
theorem rateS_nonneg {ps : List S48} (h : ∀ p ∈ ps, 1 ≤ p.f0) : 0 ≤ rateS ps := by
 induction ps with
 | nil => exact Int.le_refl _
 | cons p ps ih =>
  have h1 := h p List.mem_cons_self
  have h2 := ih (fun q hq => h q (List.mem_cons_of_mem _ hq))
  show 0 ≤ p.f0 + rateS ps
  omega
theorem loadF_le {ps : List S48} (h : ∀ p ∈ ps, 1 ≤ p.f0) (i : Int) : 0 ≤ loadF ps i ∧ loadF ps i ≤ rateS ps := by
 induction ps with
 | nil => exact ⟨Int.le_refl _, Int.le_refl _⟩
 | cons p ps ih =>
  have h1 := h p List.mem_cons_self
  have h2 := ih (fun q hq => h q (List.mem_cons_of_mem _ hq))
  show 0 ≤ (if i ∈ p.f1 then p.f0 else 0) + loadF ps i ∧ (if i ∈ p.f1 then p.f0 else 0) + loadF ps i ≤ p.f0 + rateS ps
  split <;> omega
structure Way15 (N : Net) (s t : Int) (p : List Int) : Prop where
 tr : Trail N s p t
 ne : p ≠ []
 once : (p.map N.a).Nodup
 off : t ∉ p.map N.a
theorem Way15.nodup {N : Net} {s t : Int} {p : List Int} (h : Way15 N s t p) : p.Nodup := nodup_of_map h.once
theorem src_gain {N : Net} {f : Int → Int} {s : Int} (f0 : ∀ i : Int, 0 ≤ i → i < (N.m : Int) → 0 ≤ f i) (h : ∀ i : Int, 0 ≤ i → i < (N.m : Int) → N.b i = s → f i = 0) : 0 ≤ gain N f s := by
 refine S_nonneg (fun i i0 i1 => ?_)
 have := f0 i i0 i1
 have e : (if N.b i = s then f i else 0) = 0 := by
  by_cases e : N.b i = s
  · rw [if_pos e]; exact h i i0 i1 e
  · rw [if_neg e]
 show 0 ≤ (if N.a i = s then f i else 0) - (if N.b i = s then f i else 0)
 rw [e]
 split <;> omega
section
variable {V : Int} {ls : List S53} {s t : Int}
structure Mid15 (V : Int) (ls : List S53) (s t : Int) (left cur : List Int) (out : List S48) : Prop where
 lies : Lies15 V ls s t cur
 src : ∀ i : Int, 0 ≤ i → i < (ls.length : Int) → lB ls i = s → rd cur i = 0
 sum : ∀ i : Int, 0 ≤ i → i < (ls.length : Int) → rd left i = rd cur i + loadF out i
 rate : gain (net V ls) (rd left) s = gain (net V ls) (rd cur) s + rateS out
 ways : ∀ p ∈ out, 1 ≤ p.f0 ∧ Way15 (net V ls) s t p.f1
 few : (out.length : Int) + flows ls.length (rd cur) ≤ flows ls.length (rd left)
theorem split_go {left : List Int} (d : Nat) : ∀ (cur : List Int) (out : List S48), Mid15 V ls s t left cur out → flows ls.length (rd cur) < (d : Int) →
 ∃ res : List S48, Ev (fun k => strand_Split.l0 k s t cur out V ls) (res, 0) ∧ (∀ p ∈ res, 1 ≤ p.f0 ∧ Way15 (net V ls) s t p.f1) ∧ (∀ i : Int, 0 ≤ i → i < (ls.length : Int) → rd left i = loadF res i) ∧ gain (net V ls) (rd left) s = rateS res ∧ (res.length : Int) ≤ (ls.length : Int) := by
 induction d with
 | zero =>
  intro cur out h hd
  exfalso
  have := cnt_nonneg ls.length (fun i => decide (0 < rd cur i))
  unfold flows at hd
  omega
 | succ d ih =>
  intro cur out h hd
  have hm := h.lies.g.m16
  have hg := h.lies.g
  have f0 : ∀ i : Int, 0 ≤ i → i < ((net V ls).m : Int) → 0 ≤ rd cur i := h.lies.pos
  have g0 : 0 ≤ gain (net V ls) (rd cur) s := src_gain f0 h.src
  have fl := cnt_le ls.length (fun i => decide (0 < rd left i))
  have fc := cnt_nonneg ls.length (fun i => decide (0 < rd cur i))
  have few := h.few
  unfold flows at few
  rcases peel_walk h.lies g0 (V + 1).toNat [] s rfl (by simp) (by simp) (fun l hl => by cases hl) (by simp) (by have := hg.v2; show V - 0 ≤ _; omega) with ⟨X, _, no⟩ | ⟨p, y, hp, ly, X⟩
  · obtain ⟨gs, z⟩ := h.lies.empty g0 no
    refine ⟨out, ?_, h.ways, fun i a b => by rw [h.sum i a b, z i a b]; omega, by rw [h.rate, gs]; omega, by omega⟩
    refine Ev.step (fun k => by rw [strand_Split.l0]) ?_
    exact Ev.bind X (Ev.ite_neg (by show ¬ (false = true); decide) (Ev.now _))
  · have small : ∀ l : Int, 0 ≤ l → l < (ls.length : Int) → rd cur l ≤ 4611686018427387904 := fun l a b => by have := h.lies.top l a b; have := hg.cap_le (i := l) a b; omega
    have inr : ∀ l ∈ p, 0 ≤ l ∧ l < (ls.length : Int) := fun l hl => hp.tr.mem l hl
    have le : ∀ l ∈ p, y ≤ rd cur l := fun l hl => ly.le _ (List.mem_cons_of_mem _ (List.mem_map_of_mem hl))
    have one : ∃ l ∈ p, rd cur l = y := by
     rcases List.mem_cons.1 ly.mem with q | q
     · obtain ⟨l, hl⟩ := List.exists_mem_of_ne_nil p hp.ne
       have := le l hl
       have := small l (inr l hl).1 (inr l hl).2
       exact ⟨l, hl, by omega⟩
     · obtain ⟨l, hl, e⟩ := List.mem_map.1 q
       exact ⟨l, hl, e⟩
    have y0 : 0 < y := by
     obtain ⟨l, hl, e⟩ := one
     have := hp.flow l hl; omega
    have nd := hp.nodup
    have rdn : ∀ i : Int, 0 ≤ i → rd (subL cur y p) i = if i ∈ p then rd cur i - y else rd cur i := fun i i0 => by
     rw [subL_rd y p cur (fun l hl => by rw [h.lies.len]; exact inr l hl) i i0]
     by_cases m : i ∈ p
     · rw [if_pos m, lessAll_in p _ nd m]
     · rw [if_neg m, lessAll_out p _ m]
    have gn : ∀ v : Int, gain (net V ls) (rd (subL cur y p)) v = gain (net V ls) (rd cur) v - (if s = v then y else 0) + (if t = v then y else 0) := fun v => by
     rw [← gain_less p (rd cur) hp.tr v]
     exact gain_congr (fun i a b => subL_rd y p cur (fun l hl => by rw [h.lies.len]; exact inr l hl) i a) v
    have nle : ∀ i : Int, 0 ≤ i → i < (ls.length : Int) → 0 ≤ rd (subL cur y p) i ∧ rd (subL cur y p) i ≤ rd cur i := fun i a b => by
     rw [rdn i a]
     have := h.lies.pos i a b
     by_cases m : i ∈ p
     · rw [if_pos m]; have := le i m; omega
     · rw [if_neg m]; omega
    have mid : Mid15 V ls s t left (subL cur y p) (out ++ [(⟨y, p⟩ : S48)]) := by
     refine ⟨⟨hg, by rw [subL_len]; exact h.lies.len, fun i a b => (nle i a b).1, fun i a b => by have := (nle i a b).2; have := h.lies.top i a b; omega, h.lies.vs, h.lies.vt, h.lies.ne, fun v a b c e => ?_, fun q hq => ?_⟩, fun i a b e => ?_, fun i a b => ?_, ?_, fun q hq => ?_, ?_⟩
     · rw [gn v, h.lies.keep v a b c e, if_neg (fun w => c w.symm), if_neg (fun w => e w.symm)]; rfl
     · obtain ⟨u, hu⟩ := hq.round
       exact h.lies.none q ⟨hq.ne, ⟨u, hu⟩, fun l hl => by
        have r := hu.mem l hl
        have := (nle l r.1 r.2).2
        have := hq.flow l hl
        omega⟩
     · have := nle i a b
       have := h.src i a b e
       omega
     · rw [h.sum i a b, loadF_app, rdn i a]
       show _ = _ + (loadF out i + ((if i ∈ p then y else 0) + 0))
       by_cases m : i ∈ p
       · rw [if_pos m, if_pos m]; omega
       · rw [if_neg m, if_neg m]; omega
     · rw [h.rate, rateS_app, gn s, if_pos rfl, if_neg (fun e => h.lies.ne e.symm)]
       show _ = _ + (rateS out + (y + 0))
       omega
     · rcases List.mem_append.1 hq with hq | hq
       · exact h.ways q hq
       · rw [List.mem_singleton.1 hq]
         exact ⟨y0, hp.tr, hp.ne, hp.once, hp.off⟩
     · rw [List.length_append, List.length_singleton]
       obtain ⟨l, hl, e⟩ := one
       have r := inr l hl
       have lt := cnt_lt (V := ls.length) (P := fun i => decide (0 < rd (subL cur y p) i)) (Q := fun i => decide (0 < rd cur i)) (fun i a b q => decide_eq_true (by have := of_decide_eq_true q; have := (nle i a b).2; omega)) r.1 r.2 (decide_eq_false (by rw [rdn l r.1, if_pos hl]; omega)) (decide_eq_true (hp.flow l hl))
       unfold flows
       omega
    have few2 := mid.few
    rw [List.length_append, List.length_singleton] at few2
    obtain ⟨res, R, q⟩ := ih _ _ mid (by
     have := h.few
     obtain ⟨l, hl, e⟩ := one
     have r := inr l hl
     have lt := cnt_lt (V := ls.length) (P := fun i => decide (0 < rd (subL cur y p) i)) (Q := fun i => decide (0 < rd cur i)) (fun i a b q => decide_eq_true (by have := of_decide_eq_true q; have := (nle i a b).2; omega)) r.1 r.2 (decide_eq_false (by rw [rdn l r.1, if_pos hl]; omega)) (decide_eq_true (hp.flow l hl))
     unfold flows at hd ⊢
     omega)
    refine ⟨res, ?_, q⟩
    refine Ev.step (fun k => by rw [strand_Split.l0]) ?_
    exact Ev.bind X (Ev.ite_pos rfl (Ev.ite_pos (by omega) R))
end
theorem Split_ev (V : Int) (ls : List S53) (f : List Int) (s t : Int) (hl : ls.length ≤ 17592186044416) : ∃ res : List S48, Ev (fun k => strand_Split.f k V ls f s t) (if FlowOk V ls f f s t then (res, 0) else ([], 1500)) ∧
 (FlowOk V ls f f s t → (∀ p ∈ res, 1 ≤ p.f0 ∧ Way15 (net V ls) s t p.f1) ∧ (∀ i : Int, 0 ≤ i → i < (ls.length : Int) → loadF res i ≤ rd f i) ∧ gain (net V ls) (rd f) s = rateS res ∧ (res.length : Int) ≤ (ls.length : Int) ∧
  ((∀ q, ¬ Rnd (net V ls) (rd f) q) → ∀ i : Int, 0 ≤ i → i < (ls.length : Int) → loadF res i = rd f i)) := by
 by_cases h : FlowOk V ls f f s t
 · have fine : Fine V ls f := Fine.of h.c h.w
   obtain ⟨a, A, la⟩ := Cancel_ev fine
   have al : a.length = ls.length := by rw [la.len, h.c.len]
   have lies : Lies15 V ls s t a := ⟨h.c.g, al, fun i i0 i1 => (la.le i i0 (by rw [h.c.len]; exact i1)).1, fun i i0 i1 => by
    have h1 := (la.le i i0 (by rw [h.c.len]; exact i1)).2
    have h2 := (h.c.le i i0 (by rw [h.c.len]; exact i1)).2
    omega, h.vs, h.vt, h.ne, fun v v0 v1 c e => by rw [la.gain v]; exact h.keep v v0 v1 c e, la.none⟩
   have g0 : 0 ≤ gain (net V ls) (rd a) s := by rw [la.gain s]; exact h.pos
   have mid : Mid15 V ls s t a a [] := ⟨lies, lies.source g0, fun i _ _ => by show rd a i = rd a i + 0; omega, by show _ = _ + 0; omega, (fun p hp => by cases hp), by show 0 + _ ≤ _; omega⟩
   obtain ⟨res, R, r1, r2, r3, r4⟩ := split_go ((flows ls.length (rd a)).toNat + 1) a [] mid (by have := cnt_nonneg ls.length (fun i => decide (0 < rd a i)); unfold flows; omega)
   refine ⟨res, ?_, fun _ => ⟨r1, fun i i0 i1 => ?_, by rw [← la.gain s]; exact r3, r4, fun no i i0 i1 => ?_⟩⟩
   · rw [if_pos h]
     unfold strand_Split.f
     exact Ev.bind (stream_May_ev V ls f f s t) (Ev.ite_pos (decide_eq_true h) (Ev.bind A (Ev.ite_pos rfl R)))
   · rw [← r2 i i0 i1]; exact (la.le i i0 (by rw [h.c.len]; exact i1)).2
   · rw [← r2 i i0 i1, la.same no]
 · refine ⟨[], ?_, fun g => absurd g h⟩
   rw [if_neg h]
   unfold strand_Split.f
   exact Ev.bind (stream_May_ev V ls f f s t) (Ev.ite_neg (by simp only [decide_eq_true_eq]; exact h) (Ev.now _))
theorem ref_Rate_eq (x : Int) : tollbarref1_Rate.f x = some (decide (0 ≤ x ∧ x ≤ 4611686018427387904)) := by
 unfold tollbarref1_Rate.f
 by_cases h : x ≥ 0
 · rw [if_pos h]
   congr 1
   by_cases g : x ≤ 4611686018427387904
   · rw [decide_eq_true g, decide_eq_true ⟨h, g⟩]
   · rw [decide_eq_false g, decide_eq_false (fun a => g a.2)]
 · rw [if_neg h, decide_eq_false (fun a => h a.1)]
structure LinksOk (ls : List S53) (xs : List Int) : Prop where
 few : xs.length ≤ 64
 arcs : ∀ x ∈ xs, 0 ≤ x ∧ x < (ls.length : Int)
theorem links15_loop (V : Int) (ls : List S53) (xs : List Int) (hx : xs.length ≤ 64) (d : Nat) : ∀ i : Nat, i ≤ xs.length → xs.length - i = d → (∀ j : Int, 0 ≤ j → j < (i : Int) → 0 ≤ rd xs j ∧ rd xs j < (ls.length : Int)) →
 Ev (fun k => tollbarref4_links.l0 k xs (i : Int) V ls) (decide (LinksOk ls xs)) := by
 induction d with
 | zero =>
  intro i hi hd hp
  rw [decide_eq_true (show LinksOk ls xs from ⟨hx, fun x hx => by
   obtain ⟨j, j0, j1, e⟩ := mem_rd hx
   rw [← e]; exact hp j j0 (by omega)⟩)]
  refine Ev.step (fun k => by rw [tollbarref4_links.l0]) ?_
  exact Ev.ite_neg (by omega) (Ev.now _)
 | succ d ih =>
  intro i hi hd hp
  have m := rd_mem (xs := xs) (i := (i : Int)) (by omega) (by omega)
  refine Ev.step (fun k => by rw [tollbarref4_links.l0]) ?_
  refine Ev.ite_pos (by omega) (Ev.ite_pos (by omega) ?_)
  by_cases c : rd xs (i : Int) < 0
  · rw [decide_eq_false (fun h : LinksOk ls xs => by have := h.arcs _ m; omega)]
    exact Ev.ite_pos c (Ev.now _)
  · refine Ev.ite_neg c ?_
    by_cases e : rd xs (i : Int) ≥ (ls.length : Int)
    · rw [decide_eq_false (fun h : LinksOk ls xs => by have := h.arcs _ m; omega)]
      exact Ev.ite_pos e (Ev.now _)
    · refine Ev.ite_neg e (Ev.congr (fun k => by rw [wrap_succ (by omega)]) (ih (i + 1) (by omega) (by omega) (fun j a b => ?_)))
      by_cases q : j = (i : Int)
      · rw [q]; exact ⟨by omega, by omega⟩
      · exact hp j a (by omega)
theorem links15_ev (V : Int) (ls : List S53) (xs : List Int) : Ev (fun k => tollbarref4_links.f k V ls xs) (decide (LinksOk ls xs)) := by
 unfold tollbarref4_links.f
 by_cases h : (xs.length : Int) > 64
 · rw [decide_eq_false (fun g : LinksOk ls xs => by have := g.few; omega)]
   exact Ev.ite_pos h (Ev.now _)
 · exact Ev.ite_neg h (links15_loop V ls xs (by omega) xs.length 0 (by omega) (by omega) (fun j a b => by omega))
def vertsOf (N : Net) (s : Int) (p : List Int) : List Int := s :: p.map N.b
theorem trail_at {N : Net} {p : List Int} : ∀ {u w : Int}, Trail N u p w → rd (vertsOf N u p) (p.length : Int) = w := by
 induction p with
 | nil => intro u w h; exact h
 | cons l p ih =>
  intro u w h
  have := ih h.2.2
  unfold vertsOf at this ⊢
  rw [List.length_cons, List.map_cons, show ((p.length + 1 : Nat) : Int) = (p.length : Int) + 1 by omega, rd_succ_cons (by omega)]
  exact this
theorem trail_verts {N : Net} {p : List Int} : ∀ {u w : Int}, Trail N u p w → vertsOf N u p = p.map N.a ++ [w] := by
 induction p with
 | nil => intro u w h; show [u] = [w]; rw [show u = w from h]
 | cons l p ih =>
  intro u w h
  have := ih h.2.2
  show u :: N.b l :: p.map N.b = N.a l :: (p.map N.a ++ [w])
  rw [h.2.1, ← this]
  rfl
section
variable {V : Int} {ls : List S53}
theorem walk15_loop (hm : ls.length ≤ 16) {xs : List Int} (hx : LinksOk ls xs) (s : Int) (d : Nat) : ∀ (i : Nat) (v : Int), i ≤ xs.length → xs.length - i = d → Trail (net V ls) s (xs.take i) v →
 Ev (fun k => tollbarref4_Walk.l0 k xs (vertsOf (net V ls) s (xs.take i)) (i : Int) V ls) (if ∃ w, Trail (net V ls) s xs w then (vertsOf (net V ls) s xs, 0) else ([], 601)) := by
 have few := hx.few
 induction d with
 | zero =>
  intro i v hi hd tr
  obtain rfl : i = xs.length := by omega
  rw [List.take_length] at tr ⊢
  rw [if_pos ⟨v, tr⟩]
  refine Ev.step (fun k => by rw [tollbarref4_Walk.l0]) ?_
  exact Ev.ite_neg (by omega) (Ev.now _)
 | succ d ih =>
  intro i v hi hd tr
  have hil : i < xs.length := by omega
  have r := hx.arcs _ (rd_mem (xs := xs) (i := (i : Int)) (by omega) (by omega))
  have e1 : rd xs (i : Int) = xs[i] := by
   unfold rd
   rw [Int.toNat_natCast, List.getD_eq_getElem?_getD, List.getElem?_eq_getElem hil]; rfl
  have vl : (vertsOf (net V ls) s (xs.take i)).length = i + 1 := by unfold vertsOf; rw [List.length_cons, List.length_map, List.length_take]; omega
  have at_ := trail_at tr
  rw [List.length_take, show min i xs.length = i by omega] at at_
  refine Ev.step (fun k => by rw [tollbarref4_Walk.l0]) ?_
  refine Ev.ite_pos (by omega) (Ev.ite_pos (by omega) (Ev.ite_pos r.1 (Ev.ite_pos r.2 (Ev.ite_pos (by omega) ?_))))
  rw [at_]
  by_cases c : lA ls (rd xs (i : Int)) = v
  · have tr2 : Trail (net V ls) s (xs.take (i + 1)) (lB ls (rd xs (i : Int))) := by
     rw [List.take_succ_eq_append_getElem hil, ← e1]
     exact tr.app ⟨r, c, rfl⟩
    have X := ih (i + 1) _ (by omega) (by omega) tr2
    have ev : vertsOf (net V ls) s (xs.take (i + 1)) = vertsOf (net V ls) s (xs.take i) ++ [lB ls (rd xs (i : Int))] := by
     unfold vertsOf
     rw [List.take_succ_eq_append_getElem hil, ← e1, List.map_append]
     rfl
    rw [ev] at X
    exact Ev.ite_pos c (Ev.ite_pos (by omega) (Ev.congr (fun k => by rw [wrap_succ (by omega)]; rfl) X))
  · refine Ev.ite_neg c ?_
    rw [if_neg (fun ⟨w, tw⟩ => by
     rw [← List.take_append_drop i xs, drop_rd hil] at tw
     obtain ⟨u, t1, t2⟩ := tw.split
     have h1 := trail_at t1
     rw [List.length_take, show min i xs.length = i by omega, at_] at h1
     exact c (t2.2.1.trans h1.symm))]
    exact Ev.now _
theorem Walk15_ev (V : Int) (ls : List S53) (s : Int) (xs : List Int) : Ev (fun k => tollbarref4_Walk.f k V ls s xs) (if GOk V ls ∧ (0 ≤ s ∧ s < V) ∧ LinksOk ls xs then (if ∃ w, Trail (net V ls) s xs w then (vertsOf (net V ls) s xs, 0) else ([], 601)) else ([], 600)) := by
 have no : Ev (fun k => tollbarref4_Walk.j0 k s xs true V ls) (([], 600) : List Int × Int) := by
  refine Ev.step (fun k => by rw [tollbarref4_Walk.j0]) ?_
  exact Ev.ite_pos rfl (Ev.now _)
 unfold tollbarref4_Walk.f
 refine Ev.bind (ref_GraphMay_ev V ls) ?_
 by_cases hg : GOk V ls
 · refine Ev.ite_pos (decide_eq_true hg) (Ev.call (ref_Vertex_eq _ _ _) ?_)
   by_cases hs : 0 ≤ s ∧ s < V
   · refine Ev.ite_pos (decide_eq_true hs) (Ev.bind (links15_ev V ls xs) ?_)
     by_cases hx : LinksOk ls xs
     · rw [if_pos ⟨hg, hs, hx⟩, decide_eq_true hx]
       refine Ev.step (fun k => by rw [tollbarref4_Walk.j0]) ?_
       exact Ev.ite_neg (by decide) (walk15_loop hg.m16 hx s xs.length 0 s (by omega) (by omega) rfl)
     · rw [if_neg (fun g => hx g.2.2), decide_eq_false hx]
       exact no
   · rw [if_neg (fun g => hs g.2.1)]
     exact Ev.ite_neg (by simp only [decide_eq_true_eq]; exact hs) no
 · rw [if_neg (fun g => hg g.1)]
   exact Ev.ite_neg (by simp only [decide_eq_true_eq]; exact hg) no
def Twice (xs : List Int) : Prop := ∃ i j : Int, 0 ≤ j ∧ j < i ∧ i < (xs.length : Int) ∧ rd xs i = rd xs j
theorem twice_inner (xs : List Int) (hx : xs.length ≤ 4096) (i : Nat) (hi : i < xs.length) (next : (∀ j : Int, 0 ≤ j → j < (i : Int) → rd xs (i : Int) ≠ rd xs j) → Ev (fun k => tollbarref4_twice.l0 k xs (wrap64 ((i : Int) + 1))) (decide (Twice xs))) (d : Nat) :
 ∀ j : Nat, j ≤ i → i - j = d → (∀ q : Int, 0 ≤ q → q < (j : Int) → rd xs (i : Int) ≠ rd xs q) → Ev (fun k => tollbarref4_twice.l1 k xs (i : Int) (j : Int)) (decide (Twice xs)) := by
 induction d with
 | zero =>
  intro j hj hd hp
  refine Ev.step (fun k => by rw [tollbarref4_twice.l1]) ?_
  exact Ev.ite_neg (by omega) (next (fun q a b => hp q a (by omega)))
 | succ d ih =>
  intro j hj hd hp
  refine Ev.step (fun k => by rw [tollbarref4_twice.l1]) ?_
  refine Ev.ite_pos (by omega) (Ev.ite_pos (by omega) (Ev.ite_pos (by omega) (Ev.ite_pos (by omega) (Ev.ite_pos (by omega) ?_))))
  by_cases c : rd xs (i : Int) = rd xs (j : Int)
  · rw [decide_eq_true (show Twice xs from ⟨(i : Int), (j : Int), by omega, by omega, by omega, c⟩)]
    exact Ev.ite_pos c (Ev.now _)
  · refine Ev.ite_neg c (Ev.congr (fun k => by rw [wrap_succ (by omega)]) (ih (j + 1) (by omega) (by omega) (fun q a b => ?_)))
    by_cases e : q = (j : Int)
    · rw [e]; exact c
    · exact hp q a (by omega)
theorem twice_loop (xs : List Int) (hx : xs.length ≤ 4096) (d : Nat) : ∀ i : Nat, i ≤ xs.length → xs.length - i = d → (∀ p q : Int, 0 ≤ q → q < p → p < (i : Int) → rd xs p ≠ rd xs q) → Ev (fun k => tollbarref4_twice.l0 k xs (i : Int)) (decide (Twice xs)) := by
 induction d with
 | zero =>
  intro i hi hd hp
  rw [decide_eq_false (fun ⟨p, q, a, b, c, e⟩ => hp p q a b (by omega) e)]
  refine Ev.step (fun k => by rw [tollbarref4_twice.l0]) ?_
  exact Ev.ite_neg (by omega) (Ev.now _)
 | succ d ih =>
  intro i hi hd hp
  refine Ev.step (fun k => by rw [tollbarref4_twice.l0]) ?_
  refine Ev.ite_pos (by omega) (twice_inner xs hx i (by omega) (fun one => ?_) i 0 (by omega) (by omega) (fun q a b => by omega))
  refine Ev.congr (fun k => by rw [wrap_succ (by omega)]) (ih (i + 1) (by omega) (by omega) (fun p q a b c => ?_))
  by_cases e : p = (i : Int)
  · rw [e]; exact one q a (by omega)
  · exact hp p q a b (by omega)
theorem twice_ev (xs : List Int) (hx : xs.length ≤ 4096) : Ev (fun k => tollbarref4_twice.f k xs) (decide (Twice xs)) :=
 twice_loop xs hx xs.length 0 (by omega) (by omega) (fun p q a b c => by omega)
theorem rd_nodup {xs : List Int} (h : ¬ Twice xs) : xs.Nodup := by
 induction xs with
 | nil => exact List.nodup_nil
 | cons x xs ih =>
  refine List.nodup_cons.2 ⟨fun m => ?_, ih (fun ⟨p, q, a, b, c, e⟩ => h ⟨p + 1, q + 1, by omega, by omega, by rw [List.length_cons]; omega, ?_⟩)⟩
  · obtain ⟨j, j0, j1, e⟩ := mem_rd m
    refine h ⟨j + 1, 0, by omega, by omega, by rw [List.length_cons]; omega, ?_⟩
    rw [rd_succ_cons j0, e]; rfl
  · rw [rd_succ_cons (by omega), rd_succ_cons a]; exact e
structure PathOk (V : Int) (ls : List S53) (s t : Int) (xs : List Int) : Prop where
 g : GOk V ls
 vs : 0 ≤ s ∧ s < V
 l : LinksOk ls xs
 w : Way15 (net V ls) s t xs
theorem PathMay_ev (V : Int) (ls : List S53) (s t : Int) (xs : List Int) : Ev (fun k => tollbarref4_PathMay.f k V ls s t xs) (decide (PathOk V ls s t xs)) := by
 unfold tollbarref4_PathMay.f
 refine Ev.bind (Walk15_ev V ls s xs) ?_
 by_cases h : GOk V ls ∧ (0 ≤ s ∧ s < V) ∧ LinksOk ls xs
 · rw [if_pos h]
   have few := h.2.2.few
   by_cases tr : ∃ w, Trail (net V ls) s xs w
   · rw [if_pos tr]
     obtain ⟨w, tw⟩ := tr
     have vl : (vertsOf (net V ls) s xs).length = xs.length + 1 := by unfold vertsOf; rw [List.length_cons, List.length_map]
     have at_ := trail_at tw
     have vv := trail_verts tw
     have wi : wrap64 (((vertsOf (net V ls) s xs).length : Int) - 1) = (xs.length : Int) := by rw [vl, wrap_id (by omega) (by omega)]; omega
     refine Ev.ite_pos rfl ?_
     by_cases ne : (xs.length : Int) > 0
     · rw [wi]
       refine Ev.ite_pos ne (Ev.ite_pos (by omega) (Ev.ite_pos (by show (xs.length : Int) < ((vertsOf (net V ls) s xs).length : Int); omega) ?_))
       show Ev (fun k => if rd (vertsOf (net V ls) s xs) (xs.length : Int) = t then ((tollbarref4_twice.f k (vertsOf (net V ls) s xs)).bind fun t344 => some (!t344)) else some false) _
       rw [at_]
       by_cases e : w = t
       · subst e
         refine Ev.ite_pos rfl (Ev.bind (twice_ev _ (by omega)) ?_)
         by_cases tw2 : Twice (vertsOf (net V ls) s xs)
         · rw [decide_eq_true tw2, decide_eq_false (fun q : PathOk V ls s w xs => ?_)]
           · exact Ev.now _
           · obtain ⟨p, q2, a, b, c, e⟩ := tw2
             have nd : (vertsOf (net V ls) s xs).Nodup := by
              rw [vv]
              exact List.nodup_append.2 ⟨q.w.once, by simp, fun x hx y hy => by
               rw [List.mem_singleton.1 hy]
               intro e3
               exact q.w.off (by rw [← e3]; exact hx)⟩
             exact nodup_rd nd q2 p a b c e.symm
         · have nd := rd_nodup tw2
           rw [vv] at nd
           have nd2 := List.nodup_append.1 nd
           rw [decide_eq_false tw2, decide_eq_true (show PathOk V ls s w xs from ⟨h.1, h.2.1, h.2.2, tw, fun q => by subst q; simp at ne, nd2.1, fun m => nd2.2.2 w m w (by simp) rfl⟩)]
           exact Ev.now _
       · rw [decide_eq_false (fun q : PathOk V ls s t xs => e (by
          have := trail_at q.w.tr
          rw [at_] at this; exact this))]
         exact Ev.ite_neg e (Ev.now _)
     · rw [decide_eq_false (fun q : PathOk V ls s t xs => q.w.ne (List.eq_nil_of_length_eq_zero (by omega)))]
       exact Ev.ite_neg ne (Ev.now _)
   · rw [if_neg tr, decide_eq_false (fun q : PathOk V ls s t xs => tr ⟨t, q.w.tr⟩)]
     exact Ev.ite_neg (by show ¬ ((601 : Int) = 0); decide) (Ev.now _)
 · rw [if_neg h, decide_eq_false (fun q : PathOk V ls s t xs => h ⟨q.g, q.vs, q.l⟩)]
   exact Ev.ite_neg (by show ¬ ((600 : Int) = 0); decide) (Ev.now _)
theorem at_path {ps : List S48} {i : Nat} (hi : i < ps.length) : rd_T48 ps (i : Int) = ps[i] := by
 unfold rd_T48
 rw [Int.toNat_natCast, List.getD_eq_getElem?_getD, List.getElem?_eq_getElem hi]; rfl
structure BundleOk (V : Int) (ls : List S53) (s t rate : Int) (ps : List S48) : Prop where
 g : GOk V ls
 top : 1 ≤ rate ∧ rate ≤ 4611686018427387904
 few : 1 ≤ ps.length ∧ ps.length ≤ 16
 ways : ∀ p ∈ ps, 1 ≤ p.f0 ∧ PathOk V ls s t p.f1
 sum : rateS ps = rate
theorem bundle_loop {s t rate : Int} {ps : List S48} (hg : GOk V ls) (hr : 1 ≤ rate ∧ rate ≤ 4611686018427387904) (hn : 1 ≤ ps.length ∧ ps.length ≤ 16) (d : Nat) : ∀ i : Nat, i ≤ ps.length → ps.length - i = d → (∀ p ∈ ps.take i, 1 ≤ p.f0 ∧ PathOk V ls s t p.f1) → rateS (ps.take i) ≤ rate →
 Ev (fun k => tollbarref4_BundleMay.l0 k s t rate ps (rateS (ps.take i)) (i : Int) V ls) (decide (BundleOk V ls s t rate ps)) := by
 induction d with
 | zero =>
  intro i hi hd hp hs
  obtain rfl : i = ps.length := by omega
  rw [List.take_length] at hp hs ⊢
  refine Ev.step (fun k => by rw [tollbarref4_BundleMay.l0]) ?_
  refine Ev.ite_neg (by omega) ?_
  by_cases e : rateS ps = rate
  · rw [decide_eq_true (show BundleOk V ls s t rate ps from ⟨hg, hr, hn, hp, e⟩), show (rateS ps == rate) = true by simpa using e]
    exact Ev.now _
  · rw [decide_eq_false (fun q : BundleOk V ls s t rate ps => e q.sum), show (rateS ps == rate) = false by simpa using e]
    exact Ev.now _
 | succ d ih =>
  intro i hi hd hp hs
  have hil : i < ps.length := by omega
  have m : rd_T48 ps (i : Int) ∈ ps := by rw [at_path hil]; exact List.getElem_mem hil
  have s0 := rateS_nonneg (fun p q => (hp p q).1)
  have ts : rateS (ps.take (i + 1)) = rateS (ps.take i) + (rd_T48 ps (i : Int)).f0 := by
   rw [List.take_succ_eq_append_getElem hil, rateS_app, ← at_path hil]
   show _ + ((rd_T48 ps (i : Int)).f0 + 0) = _
   omega
  refine Ev.step (fun k => by rw [tollbarref4_BundleMay.l0]) ?_
  refine Ev.ite_pos (by omega) (Ev.ite_pos (by omega) ?_)
  by_cases c : (rd_T48 ps (i : Int)).f0 < 1
  · rw [decide_eq_false (fun q : BundleOk V ls s t rate ps => by have := (q.ways _ m).1; omega)]
    exact Ev.ite_pos c (Ev.now _)
  · rw [wrap_id (x := rate - rateS (ps.take i)) (by omega) (by omega)]
    refine Ev.ite_neg c ?_
    by_cases e : (rd_T48 ps (i : Int)).f0 > rate - rateS (ps.take i)
    · rw [decide_eq_false (fun q : BundleOk V ls s t rate ps => by
       have h1 : rateS ps = rateS (ps.take (i + 1)) + rateS (ps.drop (i + 1)) := by rw [← rateS_app, List.take_append_drop]
       have h2 := rateS_nonneg (ps := ps.drop (i + 1)) (fun p hp => (q.ways p (List.mem_of_mem_drop hp)).1)
       have h3 := q.sum
       omega)]
      exact Ev.ite_pos e (Ev.now _)
    · refine Ev.ite_neg e (Ev.bind (PathMay_ev V ls s t _) ?_)
      by_cases w : PathOk V ls s t (rd_T48 ps (i : Int)).f1
      · refine Ev.ite_pos (decide_eq_true w) ?_
        have X := ih (i + 1) (by omega) (by omega) (fun p hp2 => by
         rw [List.take_succ_eq_append_getElem hil, List.mem_append, List.mem_singleton, ← at_path hil] at hp2
         rcases hp2 with q | q
         · exact hp p q
         · rw [q]; exact ⟨by omega, w⟩) (by omega)
        rw [wrap_id (x := rateS (ps.take i) + (rd_T48 ps (i : Int)).f0) (by omega) (by omega), ← ts]
        exact Ev.congr (fun k => by rw [wrap_succ (by omega)]) X
      · rw [decide_eq_false (fun q : BundleOk V ls s t rate ps => w (q.ways _ m).2)]
        exact Ev.ite_neg (by simp only [decide_eq_true_eq]; exact w) (Ev.now _)
theorem BundleMay_ev (V : Int) (ls : List S53) (s t rate : Int) (ps : List S48) : Ev (fun k => tollbarref4_BundleMay.f k V ls s t rate ps) (decide (BundleOk V ls s t rate ps)) := by
 have no : ¬ BundleOk V ls s t rate ps → Ev (fun k => tollbarref4_BundleMay.j0 k s t rate ps true V ls) (decide (BundleOk V ls s t rate ps)) := fun h => by
  rw [decide_eq_false h]
  refine Ev.step (fun k => by rw [tollbarref4_BundleMay.j0]) ?_
  exact Ev.ite_pos rfl (Ev.now _)
 unfold tollbarref4_BundleMay.f
 refine Ev.bind (ref_GraphMay_ev V ls) ?_
 by_cases hg : GOk V ls
 · refine Ev.ite_pos (decide_eq_true hg) ?_
   by_cases r0 : rate < 1
   · exact Ev.ite_pos r0 (no (fun q => by have := q.top; omega))
   refine Ev.ite_neg r0 ?_
   by_cases r1 : rate > 4611686018427387904
   · exact Ev.ite_pos r1 (no (fun q => by have := q.top; omega))
   refine Ev.ite_neg r1 ?_
   by_cases n0 : (ps.length : Int) < 1
   · exact Ev.ite_pos n0 (no (fun q => by have := q.few; omega))
   refine Ev.ite_neg n0 ?_
   by_cases n1 : (ps.length : Int) > 16
   · rw [decide_eq_true n1]
     exact no (fun q => by have := q.few; omega)
   rw [decide_eq_false n1]
   refine Ev.step (fun k => by rw [tollbarref4_BundleMay.j0]) ?_
   exact Ev.ite_neg (by decide) (bundle_loop hg ⟨by omega, by omega⟩ ⟨by omega, by omega⟩ ps.length 0 (by omega) (by omega) (fun p hp => by cases hp) (by show (0 : Int) ≤ rate; omega))
 · exact Ev.ite_neg (by simp only [decide_eq_true_eq]; exact hg) (no (fun q => hg q.g))
structure LoadIn (V : Int) (ls : List S53) (ps : List S48) : Prop where
 g : GOk V ls
 few : ps.length ≤ 16
 ways : ∀ p ∈ ps, 1 ≤ p.f0 ∧ LinksOk ls p.f1 ∧ p.f1.Nodup
 sum : rateS ps ≤ 4611686018427387904
theorem loads_l0 {ps : List S48} (h : LoadIn V ls ps) {r : List Int × Int} (next : Ev (fun k => tollbarref4_Loads.l1 k ps (List.replicate ls.length 0) 0) r) (d : Nat) : ∀ i : Nat, i ≤ ps.length → ps.length - i = d → Ev (fun k => tollbarref4_Loads.l0 k ps (i : Int) V ls) r := by
 have hm := h.g.m16
 have few := h.few
 induction d with
 | zero =>
  intro i hi hd
  refine Ev.step (fun k => by rw [tollbarref4_Loads.l0]) ?_
  refine Ev.ite_neg (by omega) (Ev.ite_pos (by omega) (Ev.ite_pos (by omega) ?_))
  rw [show ((ls.length : Int) : Int).toNat = ls.length by omega]
  exact next
 | succ d ih =>
  intro i hi hd
  have hil : i < ps.length := by omega
  have m : rd_T48 ps (i : Int) ∈ ps := by rw [at_path hil]; exact List.getElem_mem hil
  have w := h.ways _ m
  have up : (rd_T48 ps (i : Int)).f0 ≤ 4611686018427387904 := by
   have h1 : rateS ps = rateS (ps.take i) + rateS (ps.drop i) := by rw [← rateS_app, List.take_append_drop]
   have h2 := rateS_nonneg (ps := ps.take i) (fun p hp => (h.ways p (List.mem_of_mem_take hp)).1)
   have h3 := rateS_nonneg (ps := ps.drop (i + 1)) (fun p hp => (h.ways p (List.mem_of_mem_drop hp)).1)
   have h4 : rateS (ps.drop i) = (rd_T48 ps (i : Int)).f0 + rateS (ps.drop (i + 1)) := by rw [List.drop_eq_getElem_cons hil, ← at_path hil]; rfl
   have h5 := h.sum
   omega
  refine Ev.step (fun k => by rw [tollbarref4_Loads.l0]) ?_
  refine Ev.ite_pos (by omega) (Ev.ite_pos (by omega) (Ev.call (show tollbarref1_Rate.f (rd_T48 ps (i : Int)).f0 = some true from (ref_Rate_eq _).trans (by rw [decide_eq_true (show 0 ≤ (rd_T48 ps (i : Int)).f0 ∧ (rd_T48 ps (i : Int)).f0 ≤ 4611686018427387904 from ⟨by omega, up⟩)])) (Ev.ite_pos rfl (Ev.bind (links15_ev V ls _) (Ev.ite_pos (decide_eq_true w.2.1) ?_)))))
  exact Ev.congr (fun k => by rw [wrap_succ (by omega)]) (ih (i + 1) (by omega) (by omega))
theorem loads_l2 {ps : List S48} (h : LoadIn V ls ps) (i : Nat) (hi : i < ps.length) {r : List Int × Int} (next : ∀ L : List Int, L.length = ls.length → (∀ j : Int, 0 ≤ j → j < (ls.length : Int) → rd L j = loadF (ps.take (i + 1)) j) → Ev (fun k => tollbarref4_Loads.l1 k ps L (wrap64 ((i : Int) + 1))) r) (d : Nat) :
 ∀ (q : Nat) (L : List Int), q ≤ (rd_T48 ps (i : Int)).f1.length → (rd_T48 ps (i : Int)).f1.length - q = d → L.length = ls.length → (∀ j : Int, 0 ≤ j → j < (ls.length : Int) → rd L j = loadF (ps.take i) j + (if j ∈ (rd_T48 ps (i : Int)).f1.take q then (rd_T48 ps (i : Int)).f0 else 0)) →
  Ev (fun k => tollbarref4_Loads.l2 k ps L (i : Int) (q : Int)) r := by
 have hm := h.g.m16
 have few := h.few
 have m : rd_T48 ps (i : Int) ∈ ps := by rw [at_path hi]; exact List.getElem_mem hi
 have w := h.ways _ m
 have lf := w.2.1.few
 have tk : ∀ j : Int, loadF (ps.take (i + 1)) j = loadF (ps.take i) j + (if j ∈ (rd_T48 ps (i : Int)).f1 then (rd_T48 ps (i : Int)).f0 else 0) := fun j => by
  rw [List.take_succ_eq_append_getElem hi, loadF_app, ← at_path hi]
  show _ + ((if j ∈ (rd_T48 ps (i : Int)).f1 then (rd_T48 ps (i : Int)).f0 else 0) + 0) = _
  omega
 have h2 : rateS (ps.take i) + (rd_T48 ps (i : Int)).f0 ≤ 4611686018427387904 := by
  have h1 : rateS ps = rateS (ps.take i) + rateS (ps.drop i) := by rw [← rateS_app, List.take_append_drop]
  have h3 := rateS_nonneg (ps := ps.drop (i + 1)) (fun p hp => (h.ways p (List.mem_of_mem_drop hp)).1)
  have h4 : rateS (ps.drop i) = (rd_T48 ps (i : Int)).f0 + rateS (ps.drop (i + 1)) := by rw [List.drop_eq_getElem_cons hi, ← at_path hi]; rfl
  have h5 := h.sum
  omega
 induction d with
 | zero =>
  intro q L hq hd hL hr
  have eq : q = (rd_T48 ps (i : Int)).f1.length := by omega
  rw [eq, List.take_length] at hr
  refine Ev.step (fun k => by rw [tollbarref4_Loads.l2]) ?_
  exact Ev.ite_pos (by omega) (Ev.ite_pos (by omega) (Ev.ite_neg (by omega) (next L hL (fun j a b => by rw [hr j a b, tk j]))))
 | succ d ih =>
  intro q L hq hd hL hr
  have hql : q < (rd_T48 ps (i : Int)).f1.length := by omega
  have r1 := w.2.1.arcs _ (rd_mem (xs := (rd_T48 ps (i : Int)).f1) (i := (q : Int)) (by omega) (by omega))
  have e1 : rd (rd_T48 ps (i : Int)).f1 (q : Int) = (rd_T48 ps (i : Int)).f1[q] := by
   unfold rd
   rw [Int.toNat_natCast, List.getD_eq_getElem?_getD, List.getElem?_eq_getElem hql]; rfl
  have notin : rd (rd_T48 ps (i : Int)).f1 (q : Int) ∉ (rd_T48 ps (i : Int)).f1.take q := by
   have nd := w.2.2
   rw [← List.take_append_drop q (rd_T48 ps (i : Int)).f1, drop_rd hql] at nd
   exact fun mm => (List.nodup_append.1 nd).2.2 _ mm _ List.mem_cons_self rfl
  have now := hr _ r1.1 r1.2
  rw [if_neg notin] at now
  have bl := loadF_le (ps := ps.take i) (fun p hp => (h.ways p (List.mem_of_mem_take hp)).1) (rd (rd_T48 ps (i : Int)).f1 (q : Int))
  refine Ev.step (fun k => by rw [tollbarref4_Loads.l2]) ?_
  refine Ev.ite_pos (by omega) (Ev.ite_pos (by omega) (Ev.ite_pos (by omega) (Ev.ite_pos (by omega) (Ev.ite_pos r1.1 (Ev.ite_pos (by omega) ?_)))))
  rw [wrap_id (x := 4611686018427387904 - rd L (rd (rd_T48 ps (i : Int)).f1 (q : Int))) (by omega) (by omega), wrap_id (x := rd L (rd (rd_T48 ps (i : Int)).f1 (q : Int)) + (rd_T48 ps (i : Int)).f0) (by omega) (by omega)]
  refine Ev.ite_neg (by omega) ?_
  have X := ih (q + 1) (L.set (rd (rd_T48 ps (i : Int)).f1 (q : Int)).toNat (rd L (rd (rd_T48 ps (i : Int)).f1 (q : Int)) + (rd_T48 ps (i : Int)).f0)) (by omega) (by omega) (by rw [List.length_set]; exact hL) (fun j a b => by
   rw [rd_set r1.1 (by omega) a, List.take_succ_eq_append_getElem hql, ← e1]
   by_cases ej : j = rd (rd_T48 ps (i : Int)).f1 (q : Int)
   · rw [if_pos ej, now, if_pos (List.mem_append.2 (.inr (by rw [ej]; simp))), ej]; omega
   · rw [if_neg ej, hr j a b]
     by_cases mj : j ∈ (rd_T48 ps (i : Int)).f1.take q
     · rw [if_pos mj, if_pos (List.mem_append.2 (.inl mj))]
     · rw [if_neg mj, if_neg (fun mm => by
        rcases List.mem_append.1 mm with g | g
        · exact mj g
        · exact ej (List.mem_singleton.1 g))])
  exact Ev.congr (fun k => by rw [wrap_succ (by omega)]) X
theorem loads_l1 {ps : List S48} (h : LoadIn V ls ps) (d : Nat) : ∀ (i : Nat) (L : List Int), i ≤ ps.length → ps.length - i = d → L.length = ls.length → (∀ j : Int, 0 ≤ j → j < (ls.length : Int) → rd L j = loadF (ps.take i) j) →
 ∃ R : List Int, Ev (fun k => tollbarref4_Loads.l1 k ps L (i : Int)) (R, 0) ∧ R.length = ls.length ∧ ∀ j : Int, 0 ≤ j → j < (ls.length : Int) → rd R j = loadF ps j := by
 have few := h.few
 induction d with
 | zero =>
  intro i L hi hd hL hr
  obtain rfl : i = ps.length := by omega
  rw [List.take_length] at hr
  refine ⟨L, ?_, hL, hr⟩
  refine Ev.step (fun k => by rw [tollbarref4_Loads.l1]) ?_
  exact Ev.ite_neg (by omega) (Ev.now _)
 | succ d ih =>
  intro i L hi hd hL hr
  have sub : tab ls.length (loadF ps) = tab ls.length (loadF ps) := rfl
  have X : ∀ M : List Int, M.length = ls.length → (∀ j : Int, 0 ≤ j → j < (ls.length : Int) → rd M j = loadF (ps.take (i + 1)) j) → Ev (fun k => tollbarref4_Loads.l1 k ps M (wrap64 ((i : Int) + 1))) (tab ls.length (loadF ps), 0) := fun M m1 m2 => by
   obtain ⟨R, Y, y1, y2⟩ := ih (i + 1) M (by omega) (by omega) m1 m2
   rw [eq_tab y1 y2] at Y
   exact Ev.congr (fun k => by rw [wrap_succ (by omega)]) Y
  refine ⟨tab ls.length (loadF ps), ?_, tab_len _ _, fun j a b => rd_tab a b⟩
  refine Ev.step (fun k => by rw [tollbarref4_Loads.l1]) ?_
  refine Ev.ite_pos (by omega) ?_
  exact loads_l2 h i (by omega) X (rd_T48 ps (i : Int)).f1.length 0 L (by omega) (by omega) hL (fun j a b => by
   rw [hr j a b]
   show _ = _ + (if j ∈ ([] : List Int) then _ else 0)
   rw [if_neg (by simp)]; omega)
theorem Loads_ev {ps : List S48} (h : LoadIn V ls ps) : Ev (fun k => tollbarref4_Loads.f k V ls ps) (tab ls.length (loadF ps), 0) := by
 have few := h.few
 obtain ⟨R, Y, y1, y2⟩ := loads_l1 h ps.length 0 (List.replicate ls.length 0) (by omega) (by omega) (by rw [List.length_replicate]) (fun j a b => by rw [rd_rep a b]; rfl)
 rw [eq_tab y1 y2] at Y
 unfold tollbarref4_Loads.f
 refine Ev.bind (ref_GraphMay_ev V ls) (Ev.ite_pos (decide_eq_true h.g) ?_)
 rw [decide_eq_false (show ¬ ((ps.length : Int) > 16) by omega)]
 refine Ev.step (fun k => by rw [tollbarref4_Loads.j0]) ?_
 exact Ev.ite_neg (by decide) (loads_l0 h Y ps.length 0 (by omega) (by omega))
end
section
variable {V : Int} {ls : List S53} {caps f L : List Int}
end
def smallLs : List S53 := [⟨0, 1, 5⟩, ⟨1, 2, 4⟩, ⟨0, 2, 3⟩]
theorem three_ {i : Int} (h0 : 0 ≤ i) (h1 : i < 3) : i = 0 ∨ i = 1 ∨ i = 2 := by omega
theorem small_ok11 : GOk 3 smallLs := by
 refine ⟨by decide, by decide, by decide, ⟨fun i a b => ?_⟩, fun i a b => ?_, by decide⟩
 · rcases three_ a b with rfl | rfl | rfl <;> decide
 · rcases three_ a b with rfl | rfl | rfl <;> decide
theorem small_caps11 : CapsOk 3 smallLs [5, 4, 3] := by
 refine ⟨small_ok11, rfl, fun i a b => ?_⟩
 rcases three_ a b with rfl | rfl | rfl <;> decide
theorem small_flow11 (f : List Int) (hl : f.length = 3) (h0 : 0 ≤ rd f 0 ∧ rd f 0 ≤ 5) (h1 : 0 ≤ rd f 1 ∧ rd f 1 ≤ 4) (h2 : 0 ≤ rd f 2 ∧ rd f 2 ≤ 3) (e : rd f 0 = rd f 1) : FlowOk 3 smallLs [5, 4, 3] f 0 2 := by
 refine ⟨small_caps11, ⟨hl, fun i a b => ?_⟩, by omega, by omega, by omega, ?_, fun v a b c d => ?_⟩
 · rw [hl] at b
   rcases three_ a b with rfl | rfl | rfl
   · exact h0
   · exact h1
   · exact h2
 · have g : gain (net 3 smallLs) (rd f) 0 = 0 + (rd f 0 - 0) + (0 - 0) + (rd f 2 - 0) := rfl
   omega
 · obtain rfl : v = 1 := by omega
   have g : gain (net 3 smallLs) (rd f) 1 = 0 + (0 - rd f 0) + (rd f 1 - 0) + (0 - 0) := rfl
   omega
theorem Num_eq15 (x : Int) : tollbarlaw0_Num.f x = some x := rfl
section
variable {V : Int} {ls : List S53} {s t : Int}
theorem Way15.links {p : List Int} (hg : GOk V ls) (h : Way15 (net V ls) s t p) : LinksOk ls p := by
 have hv2 := hg.v2
 have hv8 := hg.v8
 have hNV : ((net V ls).V : Int) = V := net_V (by omega)
 refine ⟨?_, fun x hx => h.tr.mem x hx⟩
 have := nodup_le (V := (net V ls).V) h.once (fun x hx => by
  obtain ⟨l, hl, rfl⟩ := List.mem_map.1 hx
  have r := h.tr.mem l hl
  have := hg.end_ (i := l) r.1 r.2
  exact ⟨this.1.1, by rw [hNV]; exact this.1.2⟩)
 rw [List.length_map] at this
 omega
structure Told15 (V : Int) (ls : List S53) (s t : Int) (f : List Int) (res : List S48) : Prop where
 ways : ∀ p ∈ res, 1 ≤ p.f0 ∧ Way15 (net V ls) s t p.f1
 le : ∀ i : Int, 0 ≤ i → i < (ls.length : Int) → loadF res i ≤ rd f i
 rate : gain (net V ls) (rd f) s = rateS res
 few : (res.length : Int) ≤ (ls.length : Int)
theorem Told15.load {f : List Int} {res : List S48} (h : FlowOk V ls f f s t) (r : Told15 V ls s t f res) : LoadIn V ls res := by
 have hm := h.c.g.m16
 have few := r.few
 have gb : -4611686018427387904 ≤ gain (net V ls) (rd f) s ∧ gain (net V ls) (rd f) s ≤ 4611686018427387904 := (Fine.of h.c h.w).gain_bound s (n := ls.length) (Nat.le_refl _)
 have rt := r.rate
 exact ⟨h.c.g, by omega, fun p hp => ⟨(r.ways p hp).1, (r.ways p hp).2.links h.c.g, (r.ways p hp).2.nodup⟩, by omega⟩
theorem Told15.bundle {f : List Int} {res : List S48} (h : FlowOk V ls f f s t) (r : Told15 V ls s t f res) (g0 : 0 < gain (net V ls) (rd f) s) : BundleOk V ls s t (gain (net V ls) (rd f) s) res := by
 have hm := h.c.g.m16
 have few := r.few
 have gb : -4611686018427387904 ≤ gain (net V ls) (rd f) s ∧ gain (net V ls) (rd f) s ≤ 4611686018427387904 := (Fine.of h.c h.w).gain_bound s (n := ls.length) (Nat.le_refl _)
 refine ⟨h.c.g, ⟨by omega, gb.2⟩, ⟨?_, by omega⟩, fun p hp => ⟨(r.ways p hp).1, h.c.g, h.vs, (r.ways p hp).2.links h.c.g, (r.ways p hp).2⟩, r.rate.symm⟩
 cases res with
 | nil => exfalso; have := r.rate; have e : rateS ([] : List S48) = 0 := rfl; omega
 | cons p ps => rw [List.length_cons]; omega
end
theorem small_up {p : List Int} : ∀ {u w : Int}, Trail (net 3 smallLs) u p w → u ≤ w ∧ (p ≠ [] → u < w) := by
 induction p with
 | nil => intro u w h; exact ⟨by rw [show u = w from h]; exact Int.le_refl _, fun q => absurd rfl q⟩
 | cons l p ih =>
  intro u w h
  have h1 := (ih h.2.2).1
  have h2 := h.2.1
  have lt : (net 3 smallLs).a l < (net 3 smallLs).b l := by
   rcases three_ h.1.1 h.1.2 with rfl | rfl | rfl <;> decide
  exact ⟨by omega, fun _ => by omega⟩
theorem small_none (f : Int → Int) : ∀ q, ¬ Rnd (net 3 smallLs) f q := by
 intro q h
 obtain ⟨u, hu⟩ := h.round
 have := (small_up hu).2 h.ne
 omega
theorem small_own (f : List Int) (hl : f.length = 3) (h0 : 0 ≤ rd f 0 ∧ rd f 0 ≤ 5) (h1 : 0 ≤ rd f 1 ∧ rd f 1 ≤ 4) (h2 : 0 ≤ rd f 2 ∧ rd f 2 ≤ 3) (e : rd f 0 = rd f 1) : FlowOk 3 smallLs f f 0 2 := by
 have b := small_flow11 f hl h0 h1 h2 e
 refine ⟨⟨small_ok11, hl, fun i i0 i1 => ?_⟩, ⟨rfl, fun i i0 i1 => ⟨(b.w.le i i0 i1).1, Int.le_refl _⟩⟩, b.vs, b.vt, b.ne, b.pos, b.keep⟩
 have h3 := b.w.le i i0 i1
 have h4 := small_caps11.le i i0 (by rw [hl] at i1; exact i1)
 omega
theorem awake15 : Ev (fun k => tollbarlaw15_awake.f k) true := by
 unfold tollbarlaw15_awake.f
 have sm : tollbarlaw15_small.f = some (3, smallLs) := rfl
 have f1 := small_own [4, 4, 3] rfl (by decide) (by decide) (by decide) rfl
 have f2 := small_own [0, 0, 0] rfl (by decide) (by decide) (by decide) rfl
 obtain ⟨a, A, ha⟩ := Split_ev 3 smallLs [4, 4, 3] 0 2 (by decide)
 obtain ⟨b, B, hb⟩ := Split_ev 3 smallLs [0, 0, 0] 0 2 (by decide)
 obtain ⟨c, C, hc⟩ := Split_ev 3 smallLs [4, 3, 3] 0 2 (by decide)
 rw [if_pos f1] at A
 rw [if_pos f2] at B
 rw [if_neg (fun g => by have := g.keep 1 (by decide) (by decide) (by decide) (by decide); exact absurd this (by decide))] at C
 obtain ⟨a1, a2, a3, a4, a5⟩ := ha f1
 obtain ⟨b1, b2, b3, b4, b5⟩ := hb f2
 have g1 : gain (net 3 smallLs) (rd [4, 4, 3]) 0 = 7 := by decide
 have g2 : gain (net 3 smallLs) (rd [0, 0, 0]) 0 = 0 := by decide
 have bn : b = [] := by
  cases b with
  | nil => rfl
  | cons p ps =>
   exfalso
   have h1 := (b1 p List.mem_cons_self).1
   have h2 := rateS_nonneg (fun q hq => (b1 q (List.mem_cons_of_mem _ hq)).1)
   have h3 : rateS (p :: ps) = p.f0 + rateS ps := rfl
   omega
 have al : (a.length : Int) ≥ 2 := by
  cases a with
  | nil => exfalso; have e : rateS ([] : List S48) = 0 := rfl; omega
  | cons p ps =>
   cases ps with
   | nil =>
    exfalso
    have h3 : rateS [p] = p.f0 + 0 := rfl
    have h4 := a5 (small_none _) 0 (by decide) (by decide)
    have h5 : loadF [p] 0 = (if (0 : Int) ∈ p.f1 then p.f0 else 0) + 0 := rfl
    have h6 : rd ([4, 4, 3] : List Int) 0 = 4 := rfl
    rw [h5, h6] at h4
    split at h4 <;> omega
   | cons q ps => rw [List.length_cons, List.length_cons]; omega
 have bo : BundleOk 3 smallLs 0 2 7 a := by
  have := Told15.bundle f1 ⟨a1, a2, a3, a4⟩ (by omega)
  rwa [g1] at this
 refine Ev.call sm (Ev.bind A (Ev.call sm (Ev.bind B (Ev.call sm (Ev.bind C ?_)))))
 refine Ev.ite_pos al (Ev.call sm (Ev.bind (BundleMay_ev 3 smallLs 0 2 7 a) (Ev.ite_pos (decide_eq_true bo) (Ev.call rfl (Ev.ite_pos rfl (Ev.ite_pos (by rw [bn]; rfl) (Ev.call rfl (Ev.ite_pos rfl (Ev.call rfl ?_)))))))))
 exact Ev.now true
theorem spoilP_loop (n : Nat) (hn : n ≤ 17592186044416) (d : Nat) : ∀ (i : Nat) (xs : List S48), xs.length = n → i ≤ n → n - i = d → (∀ j : Nat, i ≤ j → j < n → (rd_T48 xs (j : Int)).f1.length ≤ 17592186044416) →
 ∃ r, Ev (fun k => tollbarlaw0_SpoilPaths.l0 k xs (i : Int)) r := by
 induction d with
 | zero =>
  intro i xs hl hi hd hp
  refine ⟨xs, Ev.step (fun k => by rw [tollbarlaw0_SpoilPaths.l0]) ?_⟩
  exact Ev.ite_neg (by omega) (Ev.now _)
 | succ d ih =>
  intro i xs hl hi hd hp
  obtain ⟨y, Y⟩ := SpoilInts_ev (rd_T48 xs (i : Int)).f1 (hp i (Nat.le_refl _) (by omega))
  obtain ⟨r, X⟩ := ih (i + 1) (xs.set (i : Int).toNat ⟨-3, y⟩) (by rw [List.length_set]; exact hl) (by omega) (by omega) (fun j h1 h2 => by
   have e : rd_T48 (xs.set (i : Int).toNat ⟨-3, y⟩) (j : Int) = rd_T48 xs (j : Int) := by
    unfold rd_T48
    rw [List.getD_eq_getElem?_getD, List.getD_eq_getElem?_getD, List.getElem?_set_ne (by omega)]
   rw [e]
   exact hp j (by omega) h2)
  refine ⟨r, Ev.step (fun k => by rw [tollbarlaw0_SpoilPaths.l0]) ?_⟩
  refine Ev.ite_pos (by omega) (Ev.ite_pos (by omega) (Ev.bind Y ?_))
  exact Ev.congr (fun k => by rw [wrap_succ (by omega)]) X
theorem SpoilPaths_ev (xs : List S48) (hn : xs.length ≤ 17592186044416) (hp : ∀ p ∈ xs, p.f1.length ≤ 17592186044416) : ∃ r, Ev (fun k => tollbarlaw0_SpoilPaths.f k xs) r :=
 spoilP_loop xs.length hn xs.length 0 xs rfl (Nat.zero_le _) (Nat.sub_zero _) (fun j _ h => by
  rw [at_path h]
  exact hp _ (List.getElem_mem h))
theorem Strands (V : Int) (ls : List S53) (f : List Int) (s t : Int) (hl : ls.length ≤ 17592186044416) (hf : f.length + 2 < 17592186044416) : Ev (fun k => tollbarlaw15_Strands.f k V ls f s t) true := by
 unfold tollbarlaw15_Strands.f
 obtain ⟨res, R, p⟩ := Split_ev V ls f s t hl
 refine Ev.call (LendInts_eq hf) (Ev.bind R (Ev.bind (ref_FlowMay_ev V ls f f s t (by omega)) ?_))
 by_cases h : FlowOk V ls f f s t
 · rw [if_pos h]
   obtain ⟨r1, r2, r3, r4, r5⟩ := p h
   have T : Told15 V ls s t f res := ⟨r1, r2, r3, r4⟩
   have ld := Told15.load h T
   have L := Loads_ev ld
   have fl := h.c.len
   have tl := tab_len ls.length (loadF res)
   have fine : Fine V ls f := Fine.of h.c h.w
   have lf := fun i : Int => loadF_le (ps := res) (fun q hq => (r1 q hq).1) i
   have w : Win f (tab ls.length (loadF res)) := ⟨by rw [tl, fl], fun i a b => by
    rw [tl] at b
    rw [rd_tab a b]
    exact ⟨(lf i).1, r2 i a b⟩⟩
   have few := ld.few
   obtain ⟨q, S⟩ := SpoilPaths_ev res (by omega) (fun p hp => by have := (ld.ways p hp).2.1.few; omega)
   have go : Ev (fun k => tollbarlaw15_Strands.j0 k f f res false V ls) true := by
    refine Ev.step (fun k => by rw [tollbarlaw15_Strands.j0]) ?_
    refine Ev.ite_neg (by decide) (Ev.bind L (Ev.ite_pos rfl (Ev.bind (ref_Within_ev f (tab ls.length (loadF res)) (by have := h.c.g.m16; omega)) ?_)))
    rw [decide_eq_true w]
    refine Ev.step (fun k => by rw [tollbarlaw15_Strands.j1]) ?_
    exact Ev.ite_neg (by decide) (Ev.bind S (Ev.bind awake15 (Ev.ite_pos rfl (Ev.bind (KeptInts_ev f hf) (Ev.now _)))))
   refine Ev.ite_pos (decide_eq_true h) (Ev.bind (ref_Gain_ev V ls f fine s) (Ev.call (Num_eq15 _) (Ev.ite_pos rfl (Ev.ite_neg (by show ¬ ((res.length : Int) > (ls.length : Int)); omega) ?_))))
   have r0 := rateS_nonneg (ps := res) (fun p hp => (r1 p hp).1)
   by_cases g0 : gain (net V ls) (rd f) s = 0
   · have e : res = [] := by
      cases hr : res with
      | nil => rfl
      | cons x xs =>
       exfalso
       have a := r1 x (by rw [hr]; exact List.mem_cons_self)
       have b := rateS_nonneg (ps := xs) (fun p hp => (r1 p (by rw [hr]; exact List.mem_cons_of_mem _ hp)).1)
       have c : rateS res = x.f0 + rateS xs := by rw [hr]; rfl
       omega
     refine Ev.ite_pos g0 (Ev.ite_neg (by rw [e]; decide) (Ev.ite_neg (by omega) go))
   · have B := Told15.bundle h T (by omega)
     refine Ev.ite_neg g0 (Ev.ite_pos (by omega) (Ev.bind (BundleMay_ev V ls s t (gain (net V ls) (rd f) s) res) ?_))
     rw [decide_eq_true B]
     exact go
 · rw [if_neg h]
   exact Ev.ite_neg (by simp only [decide_eq_true_eq]; exact h) (Ev.bind awake15 (Ev.ite_pos rfl (Ev.call (Num_eq15 _) (Ev.ite_pos rfl (Ev.now _)))))
end Go.Proofs.Ytjpgnmbocklenaa.Q
end
