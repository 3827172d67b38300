/- Texts of this claim, one behind the other: M21, M23, M18, M15, M24i, M16, M24o, M26, M31, M27, M17, FGM. -/
import Derived.Test.YtfdabjanjfehbaaAbbaf6d
import Derived.Test.YtfdabjanjfehbaaA4d30f6
section
namespace Go.Proofs.Ytfdabjanjfehbaa.PAll
open Go.RowKit Go.Proofs.YtfdabjanjfehbaaW.PrintWords Go.Proofs.YtfdabjanjfehbaaW.PrintLast Go.Proofs.YtfdabjanjfehbaaW.PrintMore
attribute [local go_sem] max2_int min2_int max_two min_two max_three min_three max_four min_four   -- for this text's walks alone
set_option linter.unusedVariables false
set_option linter.unusedSimpArgs false
set_option maxHeartbeats 8000000
set_option maxRecDepth 100000
theorem rate_Sum.mono_l : ∀ k, (∀ y0 y1 y2 y3, LeO (rate_Sum.l0 k y0 y1 y2 y3) (rate_Sum.l0 (k + 1) y0 y1 y2 y3))
  | 0 => fun _ _ _ _ r h => by simp [rate_Sum.l0] at h
  | k + 1 => by
    have ih0 := rate_Sum.mono_l k
    · intro y0 y1 y2 y3
      unfold rate_Sum.l0
      repeat' first
      | (with_reducible exact ih0 _ _ _ _)
      | (with_reducible exact LeO.refl _)
      | (with_reducible exact LeO.none _)
      | (with_reducible refine LeO.ite ?_ ?_)
      | (with_reducible refine LeO.bind ?_ (fun _ => ?_))
      | exact ih0 _ _ _ _
      | exact LeO.none _
      | refine LeO.ite ?_ ?_
      | refine LeO.bind ?_ (fun _ => ?_)
theorem rate_Sum.mono : ∀ a0 k, LeO (rate_Sum.f k a0) (rate_Sum.f (k + 1) a0) := by
  intro a0 k
  have ih0 := rate_Sum.mono_l k
  unfold rate_Sum.f
  repeat' first
      | (with_reducible exact ih0 _ _ _ _)
      | (with_reducible exact LeO.refl _)
      | (with_reducible exact LeO.none _)
      | (with_reducible refine LeO.ite ?_ ?_)
      | (with_reducible refine LeO.bind ?_ (fun _ => ?_))
      | exact ih0 _ _ _ _
      | exact LeO.none _
      | refine LeO.ite ?_ ?_
      | refine LeO.bind ?_ (fun _ => ?_)
theorem graph_Caps.mono_l : ∀ k, (∀ y0 y1 y2 y3, LeO (graph_Caps.l0 k y0 y1 y2 y3) (graph_Caps.l0 (k + 1) y0 y1 y2 y3))
  | 0 => fun _ _ _ _ r h => by simp [graph_Caps.l0] at h
  | k + 1 => by
    have ih0 := graph_Caps.mono_l k
    · intro y0 y1 y2 y3
      unfold graph_Caps.l0
      repeat' first
      | (with_reducible exact ih0 _ _ _ _)
      | (with_reducible exact LeO.refl _)
      | (with_reducible exact LeO.none _)
      | (with_reducible refine LeO.ite ?_ ?_)
      | (with_reducible refine LeO.bind ?_ (fun _ => ?_))
      | exact ih0 _ _ _ _
      | exact LeO.none _
      | refine LeO.ite ?_ ?_
      | refine LeO.bind ?_ (fun _ => ?_)
theorem graph_Caps.mono : ∀ a0 a1 k, LeO (graph_Caps.f k a0 a1) (graph_Caps.f (k + 1) a0 a1) := by
  intro a0 a1 k
  have ih0 := graph_Caps.mono_l k
  unfold graph_Caps.f
  repeat' first
      | (with_reducible exact ih0 _ _ _ _)
      | (with_reducible exact LeO.refl _)
      | (with_reducible exact LeO.none _)
      | (with_reducible refine LeO.ite ?_ ?_)
      | (with_reducible refine LeO.bind ?_ (fun _ => ?_))
      | exact ih0 _ _ _ _
      | exact LeO.none _
      | refine LeO.ite ?_ ?_
      | refine LeO.bind ?_ (fun _ => ?_)
theorem graph_May.mono_l : ∀ k, (∀ y0 y1 y2, LeO (graph_May.j0 k y0 y1 y2) (graph_May.j0 (k + 1) y0 y1 y2)) ∧ (∀ y0 y1 y2 y3 y4, LeO (graph_May.l0 k y0 y1 y2 y3 y4) (graph_May.l0 (k + 1) y0 y1 y2 y3 y4))
  | 0 => ⟨fun _ _ _ r h => by simp [graph_May.j0] at h, fun _ _ _ _ _ r h => by simp [graph_May.l0] at h⟩
  | k + 1 => by
    obtain ⟨ih0, ih1⟩ := graph_May.mono_l k
    refine ⟨?_, ?_⟩
    · intro y0 y1 y2
      unfold graph_May.j0
      repeat' first
      | (with_reducible exact ih0 _ _ _)
      | (with_reducible exact ih1 _ _ _ _ _)
      | (with_reducible exact graph_Caps.mono _ _ _)
      | (with_reducible exact rate_Sum.mono _ _)
      | (with_reducible exact LeO.refl _)
      | (with_reducible exact LeO.none _)
      | (with_reducible refine LeO.ite ?_ ?_)
      | (with_reducible refine LeO.bind ?_ (fun _ => ?_))
      | exact ih0 _ _ _
      | exact ih1 _ _ _ _ _
      | exact graph_Caps.mono _ _ _
      | exact rate_Sum.mono _ _
      | exact LeO.none _
      | refine LeO.ite ?_ ?_
      | refine LeO.bind ?_ (fun _ => ?_)
    · intro y0 y1 y2 y3 y4
      unfold graph_May.l0
      repeat' first
      | (with_reducible exact ih0 _ _ _)
      | (with_reducible exact ih1 _ _ _ _ _)
      | (with_reducible exact graph_Caps.mono _ _ _)
      | (with_reducible exact rate_Sum.mono _ _)
      | (with_reducible exact LeO.refl _)
      | (with_reducible exact LeO.none _)
      | (with_reducible refine LeO.ite ?_ ?_)
      | (with_reducible refine LeO.bind ?_ (fun _ => ?_))
      | exact ih0 _ _ _
      | exact ih1 _ _ _ _ _
      | exact graph_Caps.mono _ _ _
      | exact rate_Sum.mono _ _
      | exact LeO.none _
      | refine LeO.ite ?_ ?_
      | refine LeO.bind ?_ (fun _ => ?_)
theorem graph_May.mono : ∀ a0 a1 k, LeO (graph_May.f k a0 a1) (graph_May.f (k + 1) a0 a1) := by
  intro a0 a1 k
  obtain ⟨ih0, ih1⟩ := graph_May.mono_l k
  unfold graph_May.f
  repeat' first
      | (with_reducible exact ih0 _ _ _)
      | (with_reducible exact ih1 _ _ _ _ _)
      | (with_reducible exact graph_Caps.mono _ _ _)
      | (with_reducible exact rate_Sum.mono _ _)
      | (with_reducible exact LeO.refl _)
      | (with_reducible exact LeO.none _)
      | (with_reducible refine LeO.ite ?_ ?_)
      | (with_reducible refine LeO.bind ?_ (fun _ => ?_))
      | exact ih0 _ _ _
      | exact ih1 _ _ _ _ _
      | exact graph_Caps.mono _ _ _
      | exact rate_Sum.mono _ _
      | exact LeO.none _
      | refine LeO.ite ?_ ?_
      | refine LeO.bind ?_ (fun _ => ?_)
theorem graph_Total.mono : ∀ a0 a1 k, LeO (graph_Total.f k a0 a1) (graph_Total.f (k + 1) a0 a1) := by
  intro a0 a1 k
  unfold graph_Total.f
  repeat' first
      | (with_reducible exact graph_Caps.mono _ _ _)
      | (with_reducible exact graph_May.mono _ _ _)
      | (with_reducible exact rate_Sum.mono _ _)
      | (with_reducible exact LeO.refl _)
      | (with_reducible exact LeO.none _)
      | (with_reducible refine LeO.ite ?_ ?_)
      | (with_reducible refine LeO.bind ?_ (fun _ => ?_))
      | exact graph_Caps.mono _ _ _
      | exact graph_May.mono _ _ _
      | exact rate_Sum.mono _ _
      | exact LeO.none _
      | refine LeO.ite ?_ ?_
      | refine LeO.bind ?_ (fun _ => ?_)
theorem graph_endsI.mono_l : ∀ k, (∀ y0 y1 y2 y3, LeO (graph_endsI.j0 k y0 y1 y2 y3) (graph_endsI.j0 (k + 1) y0 y1 y2 y3)) ∧ (∀ y0 y1 y2 y3 y4, LeO (graph_endsI.l0 k y0 y1 y2 y3 y4) (graph_endsI.l0 (k + 1) y0 y1 y2 y3 y4))
  | 0 => ⟨fun _ _ _ _ r h => by simp [graph_endsI.j0] at h, fun _ _ _ _ _ r h => by simp [graph_endsI.l0] at h⟩
  | k + 1 => by
    obtain ⟨ih0, ih1⟩ := graph_endsI.mono_l k
    refine ⟨?_, ?_⟩
    · intro y0 y1 y2 y3
      unfold graph_endsI.j0
      repeat' first
      | (with_reducible exact ih0 _ _ _ _)
      | (with_reducible exact ih1 _ _ _ _ _)
      | (with_reducible exact graph_May.mono _ _ _)
      | (with_reducible exact LeO.refl _)
      | (with_reducible exact LeO.none _)
      | (with_reducible refine LeO.ite ?_ ?_)
      | (with_reducible refine LeO.bind ?_ (fun _ => ?_))
      | exact ih0 _ _ _ _
      | exact ih1 _ _ _ _ _
      | exact graph_May.mono _ _ _
      | exact LeO.none _
      | refine LeO.ite ?_ ?_
      | refine LeO.bind ?_ (fun _ => ?_)
    · intro y0 y1 y2 y3 y4
      unfold graph_endsI.l0
      repeat' first
      | (with_reducible exact ih0 _ _ _ _)
      | (with_reducible exact ih1 _ _ _ _ _)
      | (with_reducible exact graph_May.mono _ _ _)
      | (with_reducible exact LeO.refl _)
      | (with_reducible exact LeO.none _)
      | (with_reducible refine LeO.ite ?_ ?_)
      | (with_reducible refine LeO.bind ?_ (fun _ => ?_))
      | exact ih0 _ _ _ _
      | exact ih1 _ _ _ _ _
      | exact graph_May.mono _ _ _
      | exact LeO.none _
      | refine LeO.ite ?_ ?_
      | refine LeO.bind ?_ (fun _ => ?_)
theorem graph_endsI.mono : ∀ a0 a1 a2 k, LeO (graph_endsI.f k a0 a1 a2) (graph_endsI.f (k + 1) a0 a1 a2) := by
  intro a0 a1 a2 k
  obtain ⟨ih0, ih1⟩ := graph_endsI.mono_l k
  unfold graph_endsI.f
  repeat' first
      | (with_reducible exact ih0 _ _ _ _)
      | (with_reducible exact ih1 _ _ _ _ _)
      | (with_reducible exact graph_May.mono _ _ _)
      | (with_reducible exact LeO.refl _)
      | (with_reducible exact LeO.none _)
      | (with_reducible refine LeO.ite ?_ ?_)
      | (with_reducible refine LeO.bind ?_ (fun _ => ?_))
      | exact ih0 _ _ _ _
      | exact ih1 _ _ _ _ _
      | exact graph_May.mono _ _ _
      | exact LeO.none _
      | refine LeO.ite ?_ ?_
      | refine LeO.bind ?_ (fun _ => ?_)
theorem graph_In.mono : ∀ a0 a1 a2 k, LeO (graph_In.f k a0 a1 a2) (graph_In.f (k + 1) a0 a1 a2) := by
  intro a0 a1 a2 k
  unfold graph_In.f
  repeat' first
      | (with_reducible exact graph_endsI.mono _ _ _ _)
      | (with_reducible exact LeO.refl _)
      | (with_reducible exact LeO.none _)
      | (with_reducible refine LeO.ite ?_ ?_)
      | (with_reducible refine LeO.bind ?_ (fun _ => ?_))
      | exact graph_endsI.mono _ _ _ _
      | exact LeO.none _
      | refine LeO.ite ?_ ?_
      | refine LeO.bind ?_ (fun _ => ?_)
theorem graph_endsO.mono_l : ∀ k, (∀ y0 y1 y2 y3, LeO (graph_endsO.j0 k y0 y1 y2 y3) (graph_endsO.j0 (k + 1) y0 y1 y2 y3)) ∧ (∀ y0 y1 y2 y3 y4, LeO (graph_endsO.l0 k y0 y1 y2 y3 y4) (graph_endsO.l0 (k + 1) y0 y1 y2 y3 y4))
  | 0 => ⟨fun _ _ _ _ r h => by simp [graph_endsO.j0] at h, fun _ _ _ _ _ r h => by simp [graph_endsO.l0] at h⟩
  | k + 1 => by
    obtain ⟨ih0, ih1⟩ := graph_endsO.mono_l k
    refine ⟨?_, ?_⟩
    · intro y0 y1 y2 y3
      unfold graph_endsO.j0
      repeat' first
      | (with_reducible exact ih0 _ _ _ _)
      | (with_reducible exact ih1 _ _ _ _ _)
      | (with_reducible exact graph_May.mono _ _ _)
      | (with_reducible exact LeO.refl _)
      | (with_reducible exact LeO.none _)
      | (with_reducible refine LeO.ite ?_ ?_)
      | (with_reducible refine LeO.bind ?_ (fun _ => ?_))
      | exact ih0 _ _ _ _
      | exact ih1 _ _ _ _ _
      | exact graph_May.mono _ _ _
      | exact LeO.none _
      | refine LeO.ite ?_ ?_
      | refine LeO.bind ?_ (fun _ => ?_)
    · intro y0 y1 y2 y3 y4
      unfold graph_endsO.l0
      repeat' first
      | (with_reducible exact ih0 _ _ _ _)
      | (with_reducible exact ih1 _ _ _ _ _)
      | (with_reducible exact graph_May.mono _ _ _)
      | (with_reducible exact LeO.refl _)
      | (with_reducible exact LeO.none _)
      | (with_reducible refine LeO.ite ?_ ?_)
      | (with_reducible refine LeO.bind ?_ (fun _ => ?_))
      | exact ih0 _ _ _ _
      | exact ih1 _ _ _ _ _
      | exact graph_May.mono _ _ _
      | exact LeO.none _
      | refine LeO.ite ?_ ?_
      | refine LeO.bind ?_ (fun _ => ?_)
theorem graph_endsO.mono : ∀ a0 a1 a2 k, LeO (graph_endsO.f k a0 a1 a2) (graph_endsO.f (k + 1) a0 a1 a2) := by
  intro a0 a1 a2 k
  obtain ⟨ih0, ih1⟩ := graph_endsO.mono_l k
  unfold graph_endsO.f
  repeat' first
      | (with_reducible exact ih0 _ _ _ _)
      | (with_reducible exact ih1 _ _ _ _ _)
      | (with_reducible exact graph_May.mono _ _ _)
      | (with_reducible exact LeO.refl _)
      | (with_reducible exact LeO.none _)
      | (with_reducible refine LeO.ite ?_ ?_)
      | (with_reducible refine LeO.bind ?_ (fun _ => ?_))
      | exact ih0 _ _ _ _
      | exact ih1 _ _ _ _ _
      | exact graph_May.mono _ _ _
      | exact LeO.none _
      | refine LeO.ite ?_ ?_
      | refine LeO.bind ?_ (fun _ => ?_)
theorem graph_Out.mono : ∀ a0 a1 a2 k, LeO (graph_Out.f k a0 a1 a2) (graph_Out.f (k + 1) a0 a1 a2) := by
  intro a0 a1 a2 k
  unfold graph_Out.f
  repeat' first
      | (with_reducible exact graph_endsO.mono _ _ _ _)
      | (with_reducible exact LeO.refl _)
      | (with_reducible exact LeO.none _)
      | (with_reducible refine LeO.ite ?_ ?_)
      | (with_reducible refine LeO.bind ?_ (fun _ => ?_))
      | exact graph_endsO.mono _ _ _ _
      | exact LeO.none _
      | refine LeO.ite ?_ ?_
      | refine LeO.bind ?_ (fun _ => ?_)
theorem tollbarref19_SameInts.mono_l : ∀ k, (∀ y0 y1 y2, LeO (tollbarref19_SameInts.l0 k y0 y1 y2) (tollbarref19_SameInts.l0 (k + 1) y0 y1 y2))
  | 0 => fun _ _ _ r h => by simp [tollbarref19_SameInts.l0] at h
  | k + 1 => by
    have ih0 := tollbarref19_SameInts.mono_l k
    · intro y0 y1 y2
      unfold tollbarref19_SameInts.l0
      repeat' first
      | (with_reducible exact ih0 _ _ _)
      | (with_reducible exact LeO.refl _)
      | (with_reducible exact LeO.none _)
      | (with_reducible refine LeO.ite ?_ ?_)
      | (with_reducible refine LeO.bind ?_ (fun _ => ?_))
      | exact ih0 _ _ _
      | exact LeO.none _
      | refine LeO.ite ?_ ?_
      | refine LeO.bind ?_ (fun _ => ?_)
theorem tollbarref19_SameInts.mono : ∀ a0 a1 k, LeO (tollbarref19_SameInts.f k a0 a1) (tollbarref19_SameInts.f (k + 1) a0 a1) := by
  intro a0 a1 k
  have ih0 := tollbarref19_SameInts.mono_l k
  unfold tollbarref19_SameInts.f
  repeat' first
      | (with_reducible exact ih0 _ _ _)
      | (with_reducible exact LeO.refl _)
      | (with_reducible exact LeO.none _)
      | (with_reducible refine LeO.ite ?_ ?_)
      | (with_reducible refine LeO.bind ?_ (fun _ => ?_))
      | exact ih0 _ _ _
      | exact LeO.none _
      | refine LeO.ite ?_ ?_
      | refine LeO.bind ?_ (fun _ => ?_)
theorem tollbarlaw0_SameInts.mono : ∀ a0 a1 k, LeO (tollbarlaw0_SameInts.f k a0 a1) (tollbarlaw0_SameInts.f (k + 1) a0 a1) := by
  intro a0 a1 k
  unfold tollbarlaw0_SameInts.f
  repeat' first
      | (with_reducible exact tollbarref19_SameInts.mono _ _ _)
      | (with_reducible exact LeO.refl _)
      | (with_reducible exact LeO.none _)
      | (with_reducible refine LeO.ite ?_ ?_)
      | (with_reducible refine LeO.bind ?_ (fun _ => ?_))
      | exact tollbarref19_SameInts.mono _ _ _
      | exact LeO.none _
      | refine LeO.ite ?_ ?_
      | refine LeO.bind ?_ (fun _ => ?_)
theorem tollbarlaw4_awake.mono : ∀ k, LeO (tollbarlaw4_awake.f k ) (tollbarlaw4_awake.f (k + 1) ) := by
  intro  k
  unfold tollbarlaw4_awake.f
  repeat' first
      | (with_reducible exact graph_In.mono _ _ _ _)
      | (with_reducible exact graph_May.mono _ _ _)
      | (with_reducible exact graph_Out.mono _ _ _ _)
      | (with_reducible exact graph_Total.mono _ _ _)
      | (with_reducible exact tollbarlaw0_SameInts.mono _ _ _)
      | (with_reducible exact LeO.refl _)
      | (with_reducible exact LeO.none _)
      | (with_reducible refine LeO.ite ?_ ?_)
      | (with_reducible refine LeO.bind ?_ (fun _ => ?_))
      | exact graph_In.mono _ _ _ _
      | exact graph_May.mono _ _ _
      | exact graph_Out.mono _ _ _ _
      | exact graph_Total.mono _ _ _
      | exact tollbarlaw0_SameInts.mono _ _ _
      | exact LeO.none _
      | refine LeO.ite ?_ ?_
      | refine LeO.bind ?_ (fun _ => ?_)
theorem GF0.mono : ∀ a0 k, LeO (GF0.f k a0) (GF0.f (k + 1) a0) := by
  intro a0 k
  unfold GF0.f
  repeat' first
      | (with_reducible exact graph_In.mono _ _ _ _)
      | (with_reducible exact graph_May.mono _ _ _)
      | (with_reducible exact graph_Total.mono _ _ _)
      | (with_reducible exact tollbarlaw4_awake.mono _)
      | (with_reducible exact LeO.refl _)
      | (with_reducible exact LeO.none _)
      | (with_reducible refine LeO.ite ?_ ?_)
      | (with_reducible refine LeO.bind ?_ (fun _ => ?_))
      | exact graph_In.mono _ _ _ _
      | exact graph_May.mono _ _ _
      | exact graph_Total.mono _ _ _
      | exact tollbarlaw4_awake.mono _
      | exact LeO.none _
      | refine LeO.ite ?_ ?_
      | refine LeO.bind ?_ (fun _ => ?_)
theorem GF1.mono : ∀ a0 k, LeO (GF1.f k a0) (GF1.f (k + 1) a0) := by
  intro a0 k
  unfold GF1.f
  repeat' first
      | (with_reducible exact graph_In.mono _ _ _ _)
      | (with_reducible exact graph_May.mono _ _ _)
      | (with_reducible exact graph_Total.mono _ _ _)
      | (with_reducible exact tollbarlaw4_awake.mono _)
      | (with_reducible exact LeO.refl _)
      | (with_reducible exact LeO.none _)
      | (with_reducible refine LeO.ite ?_ ?_)
      | (with_reducible refine LeO.bind ?_ (fun _ => ?_))
      | exact graph_In.mono _ _ _ _
      | exact graph_May.mono _ _ _
      | exact graph_Total.mono _ _ _
      | exact tollbarlaw4_awake.mono _
      | exact LeO.none _
      | refine LeO.ite ?_ ?_
      | refine LeO.bind ?_ (fun _ => ?_)
theorem GF2.mono : ∀ a0 k, LeO (GF2.f k a0) (GF2.f (k + 1) a0) := by
  intro a0 k
  unfold GF2.f
  repeat' first
      | (with_reducible exact graph_In.mono _ _ _ _)
      | (with_reducible exact graph_May.mono _ _ _)
      | (with_reducible exact graph_Total.mono _ _ _)
      | (with_reducible exact tollbarlaw4_awake.mono _)
      | (with_reducible exact LeO.refl _)
      | (with_reducible exact LeO.none _)
      | (with_reducible refine LeO.ite ?_ ?_)
      | (with_reducible refine LeO.bind ?_ (fun _ => ?_))
      | exact graph_In.mono _ _ _ _
      | exact graph_May.mono _ _ _
      | exact graph_Total.mono _ _ _
      | exact tollbarlaw4_awake.mono _
      | exact LeO.none _
      | refine LeO.ite ?_ ?_
      | refine LeO.bind ?_ (fun _ => ?_)
theorem GF3.mono : ∀ a0 k, LeO (GF3.f k a0) (GF3.f (k + 1) a0) := by
  intro a0 k
  unfold GF3.f
  repeat' first
      | (with_reducible exact graph_In.mono _ _ _ _)
      | (with_reducible exact graph_May.mono _ _ _)
      | (with_reducible exact graph_Total.mono _ _ _)
      | (with_reducible exact tollbarlaw4_awake.mono _)
      | (with_reducible exact LeO.refl _)
      | (with_reducible exact LeO.none _)
      | (with_reducible refine LeO.ite ?_ ?_)
      | (with_reducible refine LeO.bind ?_ (fun _ => ?_))
      | exact graph_In.mono _ _ _ _
      | exact graph_May.mono _ _ _
      | exact graph_Total.mono _ _ _
      | exact tollbarlaw4_awake.mono _
      | exact LeO.none _
      | refine LeO.ite ?_ ?_
      | refine LeO.bind ?_ (fun _ => ?_)
theorem GF4.mono : ∀ a0 k, LeO (GF4.f k a0) (GF4.f (k + 1) a0) := by
  intro a0 k
  unfold GF4.f
  repeat' first
      | (with_reducible exact graph_In.mono _ _ _ _)
      | (with_reducible exact graph_May.mono _ _ _)
      | (with_reducible exact graph_Total.mono _ _ _)
      | (with_reducible exact tollbarlaw4_awake.mono _)
      | (with_reducible exact LeO.refl _)
      | (with_reducible exact LeO.none _)
      | (with_reducible refine LeO.ite ?_ ?_)
      | (with_reducible refine LeO.bind ?_ (fun _ => ?_))
      | exact graph_In.mono _ _ _ _
      | exact graph_May.mono _ _ _
      | exact graph_Total.mono _ _ _
      | exact tollbarlaw4_awake.mono _
      | exact LeO.none _
      | refine LeO.ite ?_ ?_
      | refine LeO.bind ?_ (fun _ => ?_)
theorem GF5.mono : ∀ a0 k, LeO (GF5.f k a0) (GF5.f (k + 1) a0) := by
  intro a0 k
  unfold GF5.f
  repeat' first
      | (with_reducible exact graph_In.mono _ _ _ _)
      | (with_reducible exact graph_May.mono _ _ _)
      | (with_reducible exact graph_Total.mono _ _ _)
      | (with_reducible exact tollbarlaw4_awake.mono _)
      | (with_reducible exact LeO.refl _)
      | (with_reducible exact LeO.none _)
      | (with_reducible refine LeO.ite ?_ ?_)
      | (with_reducible refine LeO.bind ?_ (fun _ => ?_))
      | exact graph_In.mono _ _ _ _
      | exact graph_May.mono _ _ _
      | exact graph_Total.mono _ _ _
      | exact tollbarlaw4_awake.mono _
      | exact LeO.none _
      | refine LeO.ite ?_ ?_
      | refine LeO.bind ?_ (fun _ => ?_)
theorem GF6.mono : ∀ a0 k, LeO (GF6.f k a0) (GF6.f (k + 1) a0) := by
  intro a0 k
  unfold GF6.f
  repeat' first
      | (with_reducible exact graph_In.mono _ _ _ _)
      | (with_reducible exact graph_May.mono _ _ _)
      | (with_reducible exact graph_Total.mono _ _ _)
      | (with_reducible exact tollbarlaw4_awake.mono _)
      | (with_reducible exact LeO.refl _)
      | (with_reducible exact LeO.none _)
      | (with_reducible refine LeO.ite ?_ ?_)
      | (with_reducible refine LeO.bind ?_ (fun _ => ?_))
      | exact graph_In.mono _ _ _ _
      | exact graph_May.mono _ _ _
      | exact graph_Total.mono _ _ _
      | exact tollbarlaw4_awake.mono _
      | exact LeO.none _
      | refine LeO.ite ?_ ?_
      | refine LeO.bind ?_ (fun _ => ?_)
theorem GF7.mono_l : ∀ k, (∀ y0 y1, LeO (GF7.l0 k y0 y1) (GF7.l0 (k + 1) y0 y1))
  | 0 => fun _ _ r h => by simp [GF7.l0] at h
  | k + 1 => by
    have ih0 := GF7.mono_l k
    · intro y0 y1
      unfold GF7.l0
      repeat' first
      | (with_reducible exact ih0 _ _)
      | (with_reducible exact graph_In.mono _ _ _ _)
      | (with_reducible exact graph_May.mono _ _ _)
      | (with_reducible exact graph_Total.mono _ _ _)
      | (with_reducible exact tollbarlaw4_awake.mono _)
      | (with_reducible exact LeO.refl _)
      | (with_reducible exact LeO.none _)
      | (with_reducible refine LeO.ite ?_ ?_)
      | (with_reducible refine LeO.bind ?_ (fun _ => ?_))
      | exact ih0 _ _
      | exact graph_In.mono _ _ _ _
      | exact graph_May.mono _ _ _
      | exact graph_Total.mono _ _ _
      | exact tollbarlaw4_awake.mono _
      | exact LeO.none _
      | refine LeO.ite ?_ ?_
      | refine LeO.bind ?_ (fun _ => ?_)
theorem GF7.mono : ∀ a0 k, LeO (GF7.f k a0) (GF7.f (k + 1) a0) := by
  intro a0 k
  have ih0 := GF7.mono_l k
  unfold GF7.f
  repeat' first
      | (with_reducible exact ih0 _ _)
      | (with_reducible exact graph_In.mono _ _ _ _)
      | (with_reducible exact graph_May.mono _ _ _)
      | (with_reducible exact graph_Total.mono _ _ _)
      | (with_reducible exact tollbarlaw4_awake.mono _)
      | (with_reducible exact LeO.refl _)
      | (with_reducible exact LeO.none _)
      | (with_reducible refine LeO.ite ?_ ?_)
      | (with_reducible refine LeO.bind ?_ (fun _ => ?_))
      | exact ih0 _ _
      | exact graph_In.mono _ _ _ _
      | exact graph_May.mono _ _ _
      | exact graph_Total.mono _ _ _
      | exact tollbarlaw4_awake.mono _
      | exact LeO.none _
      | refine LeO.ite ?_ ?_
      | refine LeO.bind ?_ (fun _ => ?_)
end Go.Proofs.Ytfdabjanjfehbaa.PAll
end
