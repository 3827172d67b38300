/- Texts of this claim, one behind the other: Open. -/
import Derived.Test.YtjpgnmbocklenaaWMore
import Derived.SizedLaws
import Derived.ChangeArms
import Derived.Deep.Slices
import Derived.Deep.Fields
import Derived.ChangeSame
import Derived.WideShapes
import Derived.Lib.SmallJoins
section
/- Readings of arguments, opened by kinds: plain lemmas for this seat's rows. -/
namespace Go.Proofs.Ytjpgnmbocklenaa.Open
open Go.RowKit Go.ChangeShapes Go.WideShapes Go.Deep Go.Joins Go.Proofs.YtjpgnmbocklenaaW.PrintWords

/-- A reading of type t is a datum of the kind d, and fits. -/
def Opens {α : Type} (P : Program) (t : TypeId) (d : Kd α) (wf : α → Prop) : Prop :=
  ∀ {H : Type} {enc : TypeId × Value → H} {w : World} {base : Nat} {spare : Nat → Bool} {held : Bool} {fuel : Nat} {cs : List Value} {x : DataW H × List MemPlace},
    DataW.trod enc P w base spare held fuel t cs = some x → (x.1.weights P t).all (· ≤ reachBytes) = true → ∃ a, d.K w a cs ∧ wf a

theorem opens_int {P : Program} {t : TypeId} {k : IntKind} (hu : P.underlying t = some (.int k)) : Opens P t (Kd.int k) (fun a => (Lit.int k a).wf = true) := by
  intro H enc w base spare held fuel cs x h _
  obtain ⟨n, rfl, _, hw⟩ := DataW.trod_int hu h
  exact ⟨n, rfl, hw⟩

theorem opens_string {P : Program} {t : TypeId} (hu : P.underlying t = some .string) : Opens P t Kd.string (fun s => s.size ≤ reachBytes) := by
  intro H enc w base spare held fuel cs x h hz
  obtain ⟨s, rfl, hx, hw⟩ := DataW.trod_string hu h
  subst hx
  refine ⟨s, rfl, ?_⟩
  simpa [DataW.weights] using hz

theorem weights_all_mem {H : Type} {P : Program} {e : TypeId} : ∀ {l : List (DataW H)} {d : DataW H}, d ∈ l → ∀ n ∈ d.weights P e, n ∈ DataW.weightsAll P e l
  | a :: l, d, hd, n, hn => by
    simp only [DataW.weightsAll, List.mem_append]
    rcases List.mem_cons.1 hd with rfl | hd
    · exact .inl hn
    · exact .inr (weights_all_mem hd n hn)

theorem opens_slice {α : Type} {P : Program} {t e : TypeId} {d : Kd α} {wf : α → Prop} (hu : P.underlying t = some (.slice e)) (hC : P.cellsOf e = d.sz) {B : Nat} (hB : P.bytesOf e = B)
    (he : Opens P e d wf) : Opens P t (Kd.slice e d) (fun xs => xs.length * B ≤ reachBytes ∧ xs.length ≤ maxLen ∧ ∀ x ∈ xs, wf x) := by
  intro H enc w base spare held fuel cs x h hz
  rcases open_slice hu h with ⟨rfl, _⟩ | ⟨a, len, cap, m, n, D, Pl, rfl, _, hl, hm, hmm, rfl, hx⟩
  · refine ⟨[], ⟨none, 0, rfl, Nat.le_refl _, rfl, by simp, fun h => absurd h (Nat.lt_irrefl 0)⟩, by simp, Nat.zero_le _, by simp⟩
  · have hlm : len ≤ m := by rw [hmm]; split <;> omega
    have hw : ∀ n, n ∈ DataW.weights P t (DataW.slice ((List.range len).map D) ((List.range (m - len)).map fun j => D (len + j))) → n ≤ reachBytes := by
      intro n hn
      have := List.all_eq_true.1 hz n hn
      simpa using this
    simp only [DataW.weights, hu] at hw
    have hbytes : len * B ≤ reachBytes := by
      have h1 := hw _ List.mem_cons_self
      simp only [List.length_map, List.length_range] at h1
      rw [hB] at h1
      exact Nat.le_trans (Nat.mul_le_mul_right _ (by omega)) h1
    have hel : ∀ i, i < len → ∃ y : α, wf y ∧ ∃ c, c.length = d.sz ∧ d.K w y c ∧ ∀ j u, c[j]? = some u → w.cell? (a.add (i * d.sz + j)) = some u := by
      intro i hi
      obtain ⟨cs', hc, ht⟩ := hx i (by omega)
      have hzi : ((D i).weights P e).all (· ≤ reachBytes) = true := by
        refine List.all_eq_true.2 fun n hn => ?_
        have hmem : D i ∈ (List.range len).map D := List.mem_map.2 ⟨i, List.mem_range.2 hi, rfl⟩
        have := hw n (List.mem_cons_of_mem _ (List.mem_append.2 (.inl (weights_all_mem hmem n hn))))
        simpa using this
      obtain ⟨y, hy, hwf⟩ := he ht hzi
      rw [hC] at hc
      obtain ⟨_, hcl, hat⟩ := World.cells?_some hc
      refine ⟨y, hwf, cs', hcl, hy, fun j u hj => ?_⟩
      have hjl : j < d.sz := by
        have := (List.getElem?_eq_some_iff.1 hj).1
        omega
      have h2 := hat j hjl
      rw [← Go.Deep.add_add, h2, hj]
    clear hx
    have hall : ∀ k, k ≤ len → ∃ ys : List α, ys.length = k ∧ (∀ y ∈ ys, wf y) ∧ ∀ j y, ys[j]? = some y → ∃ c, c.length = d.sz ∧ d.K w y c ∧ ∀ i u, c[i]? = some u → w.cell? (a.add (j * d.sz + i)) = some u := by
      intro k
      induction k with
      | zero => intro _; exact ⟨[], rfl, by simp, fun j y h => by simp at h⟩
      | succ k ih =>
        intro hk
        obtain ⟨ys, hyl, hyw, hyc⟩ := ih (by omega)
        obtain ⟨y, hwf, hc⟩ := hel k (by omega)
        refine ⟨ys ++ [y], by simp [hyl], ?_, ?_⟩
        · intro z hz
          rcases List.mem_append.1 hz with hz | hz
          · exact hyw z hz
          · rw [List.mem_singleton.1 hz]; exact hwf
        · intro j z hj
          by_cases hjk : j < k
          · rw [List.getElem?_append_left (by omega)] at hj
            exact hyc j z hj
          · by_cases hje : j = k
            · subst hje
              rw [List.getElem?_append_right (by omega), hyl, Nat.sub_self] at hj
              simp at hj
              subst hj
              exact hc
            · rw [List.getElem?_eq_none (by simp [hyl]; omega)] at hj
              simp at hj
    obtain ⟨ys, hyl, hyw, hyc⟩ := hall len (Nat.le_refl _)
    subst hyl
    refine ⟨ys, ⟨some a, cap, rfl, hl, rfl, by unfold maxLen at hm; omega, fun _ => ⟨a, rfl, fun j y hj => hyc j y hj⟩⟩, hbytes, by omega, hyw⟩

/-- A parameter of one cell: an integer. -/
theorem arg_int {H : Type} {enc : TypeId × Value → H} {P : Program} {w : World} {base : Nat} {spare : Nat → Bool} {held : Bool} {t : TypeId} {v : Value} {d : DataW H} {p : List MemPlace} {r : Reach} {b0 : Nat} {k : IntKind}
    (hu : P.underlying t = some (.int k)) (hv : Value.okWide P w r b0 t v) (h : DataW.Trod enc P w base spare held t v d p) : ∃ a, v = .int k a ∧ (Lit.int k a).wf = true := by
  obtain ⟨a, rfl, _, _, hw⟩ := open_int hu hv h
  exact ⟨a, rfl, hw⟩

/-- A parameter that is a slice. -/
theorem arg_slice {α : Type} {H : Type} {enc : TypeId × Value → H} {P : Program} {w : World} {base : Nat} {spare : Nat → Bool} {held : Bool} {t e : TypeId} {v : Value} {d : DataW H} {p : List MemPlace} {r : Reach} {b0 : Nat} {dk : Kd α} {wf : List α → Prop}
    (hu : P.underlying t = some (.slice e)) (ho : Opens P t (Kd.slice e dk) wf) (hv : Value.okWide P w r b0 t v) (h : DataW.Trod enc P w base spare held t v d p) (hz : (d.weights P t).all (· ≤ reachBytes) = true) :
    ∃ (A : Option Addr) (c : Nat) (xs : List α), v = .slice A xs.length c ∧ xs.length ≤ c ∧ dk.C w A xs.length xs ∧ wf xs := by
  obtain ⟨a, len, cap, rfl⟩ := okWide_slice hu hv
  obtain ⟨fuel, hf⟩ := h
  obtain ⟨xs, ⟨A, c, hcs, hl, hC⟩, hw⟩ := ho hf hz
  simp only [Value.cells, List.cons.injEq, and_true] at hcs
  exact ⟨A, c, xs, hcs, hl, hC, hw⟩

/-- A parameter that is a struct of an integer and a slice (a graph). -/
theorem arg_graph {α : Type} {H : Type} {enc : TypeId × Value → H} {P : Program} {w : World} {base : Nat} {spare : Nat → Bool} {held : Bool} {t : TypeId} {f0 f1 : Field} {e : TypeId} {v : Value} {d : DataW H} {p : List MemPlace} {r : Reach} {b0 : Nat} {dk : Kd α} {wf : List α → Prop} {k : IntKind}
    (hs : P.underlying t = some (.struct #[f0, f1])) (hone : oneCellFields P #[f0, f1] = true) (hC : P.cellsOf t = 2) (h0 : P.underlying f0.type = some (.int k))
    (ho : Opens P f1.type (Kd.slice e dk) wf) (hv : Value.okWide P w r b0 t v) (h : DataW.Trod enc P w base spare held t v d p) (hz : (d.weights P t).all (· ≤ reachBytes) = true) :
    ∃ (a : Int) (A : Option Addr) (c : Nat) (xs : List α), v = .agg #[.int k a, .slice A xs.length c] ∧ (Lit.int k a).wf = true ∧ xs.length ≤ c ∧ dk.C w A xs.length xs ∧ wf xs := by
  obtain ⟨v0, v1, y0, y1, n, rfl, rfl, _, ht0, ht1⟩ := open_agg2 hs hone hC hv h
  obtain ⟨a, hc0, _, hw⟩ := DataW.trod_int h0 ht0
  have hz1 : (y1.1.weights P f1.type).all (· ≤ reachBytes) = true := by
    refine List.all_eq_true.2 fun n hn => ?_
    refine List.all_eq_true.1 hz n ?_
    simp only [DataW.weights, hs, List.map_cons, List.map_nil, DataW.weightsEach]
    simp [hn]
  obtain ⟨xs, ⟨A, c, hcs, hl, hCC⟩, hwx⟩ := ho ht1 hz1
  simp only [List.cons.injEq, and_true] at hc0 hcs
  subst hc0 hcs
  exact ⟨a, A, c, xs, rfl, hw, hl, hCC, hwx⟩

theorem list2 {α : Type} {l : List α} (h : l.length = 2) : ∃ a b, l = [a, b] := by
  match l, h with
  | [a, b], _ => exact ⟨a, b, rfl⟩
theorem list3 {α : Type} {l : List α} (h : l.length = 3) : ∃ a b c, l = [a, b, c] := by
  match l, h with
  | [a, b, c], _ => exact ⟨a, b, c, rfl⟩

/-- One argument's own weights out of all. -/
theorem weigh {H : Type} {P : Program} {ts : List TypeId} {ds : List (DataW H)} (h : (DataW.weightsEach P ts ds).all (· ≤ reachBytes) = true) {j : Nat} {t : TypeId} {d : DataW H} (ht : ts[j]? = some t) (hd : ds[j]? = some d) :
    (d.weights P t).all (· ≤ reachBytes) = true :=
  List.all_eq_true.2 fun n hn => List.all_eq_true.1 h n (DataW.weights_mem_each ht hd n hn)

end Go.Proofs.Ytjpgnmbocklenaa.Open
end
