/- Texts of this claim, one behind the other: M57, M37, M16, M55, M35, M51o, M29, M51i, M31, M33, M40. -/
import Derived.Test.YtbbdbnikogmidaaA98f31f
import Derived.Test.YtbbdbnikogmidaaA505a8d
section
/- tollbarref19_SameInts: more rounds tell the same. Written by a program for this claim. -/
namespace Go.Proofs.Ytbbdbnikogmidaa.PAll
open Go.RowKit Go.Proofs.YtbbdbnikogmidaaW.PrintWords Go.Proofs.YtbbdbnikogmidaaW.PrintLast Go.Proofs.YtbbdbnikogmidaaW.PrintMore
attribute [local go_sem] max2_int min2_int max_two min_two max_three min_three max_four min_four   -- for this text's walks alone
set_option linter.unusedVariables false
set_option linter.unusedSimpArgs false
theorem tollbarref19_SameInts.mono_l : ∀ k, (∀ y0 y1 y2, LeO (tollbarref19_SameInts.l0 k y0 y1 y2) (tollbarref19_SameInts.l0 (k + 1) y0 y1 y2))
  | 0 => fun _ _ _ r h => by simp [tollbarref19_SameInts.l0] at h
  | k + 1 => by
    have ih0 := tollbarref19_SameInts.mono_l k
    · intro y0 y1 y2
      unfold tollbarref19_SameInts.l0
      repeat' first
      | (with_reducible exact ih0 _ _ _)
      | (with_reducible exact LeO.refl _)
      | (with_reducible exact LeO.none _)
      | (with_reducible refine LeO.ite ?_ ?_)
      | (with_reducible refine LeO.bind ?_ (fun _ => ?_))
      | exact ih0 _ _ _
      | exact LeO.none _
      | refine LeO.ite ?_ ?_
      | refine LeO.bind ?_ (fun _ => ?_)
theorem tollbarref19_SameInts.mono : ∀ a0 a1 k, LeO (tollbarref19_SameInts.f k a0 a1) (tollbarref19_SameInts.f (k + 1) a0 a1) := by
  intro a0 a1 k
  have ih0 := tollbarref19_SameInts.mono_l k
  unfold tollbarref19_SameInts.f
  repeat' first
      | (with_reducible exact ih0 _ _ _)
      | (with_reducible exact LeO.refl _)
      | (with_reducible exact LeO.none _)
      | (with_reducible refine LeO.ite ?_ ?_)
      | (with_reducible refine LeO.bind ?_ (fun _ => ?_))
      | exact ih0 _ _ _
      | exact LeO.none _
      | refine LeO.ite ?_ ?_
      | refine LeO.bind ?_ (fun _ => ?_)
end Go.Proofs.Ytbbdbnikogmidaa.PAll
end

section
/- tollbarlaw0_SameInts: more rounds tell the same. Written by a program for this claim. -/
namespace Go.Proofs.Ytbbdbnikogmidaa.PAll
open Go.RowKit Go.Proofs.YtbbdbnikogmidaaW.PrintWords Go.Proofs.YtbbdbnikogmidaaW.PrintLast Go.Proofs.YtbbdbnikogmidaaW.PrintMore
attribute [local go_sem] max2_int min2_int max_two min_two max_three min_three max_four min_four   -- for this text's walks alone
set_option linter.unusedVariables false
set_option linter.unusedSimpArgs false
theorem tollbarlaw0_SameInts.mono : ∀ a0 a1 k, LeO (tollbarlaw0_SameInts.f k a0 a1) (tollbarlaw0_SameInts.f (k + 1) a0 a1) := by
  intro a0 a1 k
  unfold tollbarlaw0_SameInts.f
  repeat' first
      | (with_reducible exact tollbarref19_SameInts.mono _ _ _)
      | (with_reducible exact LeO.refl _)
      | (with_reducible exact LeO.none _)
      | (with_reducible refine LeO.ite ?_ ?_)
      | (with_reducible refine LeO.bind ?_ (fun _ => ?_))
      | exact tollbarref19_SameInts.mono _ _ _
      | exact LeO.none _
      | refine LeO.ite ?_ ?_
      | refine LeO.bind ?_ (fun _ => ?_)
end Go.Proofs.Ytbbdbnikogmidaa.PAll
end

section
/- rate_Sum: more rounds tell the same. Written by a program for this claim. -/
namespace Go.Proofs.Ytbbdbnikogmidaa.PAll
open Go.RowKit Go.Proofs.YtbbdbnikogmidaaW.PrintWords Go.Proofs.YtbbdbnikogmidaaW.PrintLast Go.Proofs.YtbbdbnikogmidaaW.PrintMore
attribute [local go_sem] max2_int min2_int max_two min_two max_three min_three max_four min_four   -- for this text's walks alone
set_option linter.unusedVariables false
set_option linter.unusedSimpArgs false
theorem rate_Sum.mono_l : ∀ k, (∀ y0 y1 y2 y3, LeO (rate_Sum.l0 k y0 y1 y2 y3) (rate_Sum.l0 (k + 1) y0 y1 y2 y3))
  | 0 => fun _ _ _ _ r h => by simp [rate_Sum.l0] at h
  | k + 1 => by
    have ih0 := rate_Sum.mono_l k
    · intro y0 y1 y2 y3
      unfold rate_Sum.l0
      repeat' first
      | (with_reducible exact ih0 _ _ _ _)
      | (with_reducible exact LeO.refl _)
      | (with_reducible exact LeO.none _)
      | (with_reducible refine LeO.ite ?_ ?_)
      | (with_reducible refine LeO.bind ?_ (fun _ => ?_))
      | exact ih0 _ _ _ _
      | exact LeO.none _
      | refine LeO.ite ?_ ?_
      | refine LeO.bind ?_ (fun _ => ?_)
theorem rate_Sum.mono : ∀ a0 k, LeO (rate_Sum.f k a0) (rate_Sum.f (k + 1) a0) := by
  intro a0 k
  have ih0 := rate_Sum.mono_l k
  unfold rate_Sum.f
  repeat' first
      | (with_reducible exact ih0 _ _ _ _)
      | (with_reducible exact LeO.refl _)
      | (with_reducible exact LeO.none _)
      | (with_reducible refine LeO.ite ?_ ?_)
      | (with_reducible refine LeO.bind ?_ (fun _ => ?_))
      | exact ih0 _ _ _ _
      | exact LeO.none _
      | refine LeO.ite ?_ ?_
      | refine LeO.bind ?_ (fun _ => ?_)
end Go.Proofs.Ytbbdbnikogmidaa.PAll
end

section
/- graph_Caps: more rounds tell the same. Written by a program for this claim. -/
namespace Go.Proofs.Ytbbdbnikogmidaa.PAll
open Go.RowKit Go.Proofs.YtbbdbnikogmidaaW.PrintWords Go.Proofs.YtbbdbnikogmidaaW.PrintLast Go.Proofs.YtbbdbnikogmidaaW.PrintMore
attribute [local go_sem] max2_int min2_int max_two min_two max_three min_three max_four min_four   -- for this text's walks alone
set_option linter.unusedVariables false
set_option linter.unusedSimpArgs false
theorem graph_Caps.mono_l : ∀ k, (∀ y0 y1 y2 y3, LeO (graph_Caps.l0 k y0 y1 y2 y3) (graph_Caps.l0 (k + 1) y0 y1 y2 y3))
  | 0 => fun _ _ _ _ r h => by simp [graph_Caps.l0] at h
  | k + 1 => by
    have ih0 := graph_Caps.mono_l k
    · intro y0 y1 y2 y3
      unfold graph_Caps.l0
      repeat' first
      | (with_reducible exact ih0 _ _ _ _)
      | (with_reducible exact LeO.refl _)
      | (with_reducible exact LeO.none _)
      | (with_reducible refine LeO.ite ?_ ?_)
      | (with_reducible refine LeO.bind ?_ (fun _ => ?_))
      | exact ih0 _ _ _ _
      | exact LeO.none _
      | refine LeO.ite ?_ ?_
      | refine LeO.bind ?_ (fun _ => ?_)
theorem graph_Caps.mono : ∀ a0 a1 k, LeO (graph_Caps.f k a0 a1) (graph_Caps.f (k + 1) a0 a1) := by
  intro a0 a1 k
  have ih0 := graph_Caps.mono_l k
  unfold graph_Caps.f
  repeat' first
      | (with_reducible exact ih0 _ _ _ _)
      | (with_reducible exact LeO.refl _)
      | (with_reducible exact LeO.none _)
      | (with_reducible refine LeO.ite ?_ ?_)
      | (with_reducible refine LeO.bind ?_ (fun _ => ?_))
      | exact ih0 _ _ _ _
      | exact LeO.none _
      | refine LeO.ite ?_ ?_
      | refine LeO.bind ?_ (fun _ => ?_)
end Go.Proofs.Ytbbdbnikogmidaa.PAll
end

section
/- graph_May: more rounds tell the same. Written by a program for this claim. -/
namespace Go.Proofs.Ytbbdbnikogmidaa.PAll
open Go.RowKit Go.Proofs.YtbbdbnikogmidaaW.PrintWords Go.Proofs.YtbbdbnikogmidaaW.PrintLast Go.Proofs.YtbbdbnikogmidaaW.PrintMore
attribute [local go_sem] max2_int min2_int max_two min_two max_three min_three max_four min_four   -- for this text's walks alone
set_option linter.unusedVariables false
set_option linter.unusedSimpArgs false
theorem graph_May.mono_l : ∀ k, (∀ y0 y1 y2, LeO (graph_May.j0 k y0 y1 y2) (graph_May.j0 (k + 1) y0 y1 y2)) ∧ (∀ y0 y1 y2 y3 y4, LeO (graph_May.l0 k y0 y1 y2 y3 y4) (graph_May.l0 (k + 1) y0 y1 y2 y3 y4))
  | 0 => ⟨fun _ _ _ r h => by simp [graph_May.j0] at h, fun _ _ _ _ _ r h => by simp [graph_May.l0] at h⟩
  | k + 1 => by
    obtain ⟨ih0, ih1⟩ := graph_May.mono_l k
    refine ⟨?_, ?_⟩
    · intro y0 y1 y2
      unfold graph_May.j0
      repeat' first
      | (with_reducible exact ih0 _ _ _)
      | (with_reducible exact ih1 _ _ _ _ _)
      | (with_reducible exact graph_Caps.mono _ _ _)
      | (with_reducible exact rate_Sum.mono _ _)
      | (with_reducible exact LeO.refl _)
      | (with_reducible exact LeO.none _)
      | (with_reducible refine LeO.ite ?_ ?_)
      | (with_reducible refine LeO.bind ?_ (fun _ => ?_))
      | exact ih0 _ _ _
      | exact ih1 _ _ _ _ _
      | exact graph_Caps.mono _ _ _
      | exact rate_Sum.mono _ _
      | exact LeO.none _
      | refine LeO.ite ?_ ?_
      | refine LeO.bind ?_ (fun _ => ?_)
    · intro y0 y1 y2 y3 y4
      unfold graph_May.l0
      repeat' first
      | (with_reducible exact ih0 _ _ _)
      | (with_reducible exact ih1 _ _ _ _ _)
      | (with_reducible exact graph_Caps.mono _ _ _)
      | (with_reducible exact rate_Sum.mono _ _)
      | (with_reducible exact LeO.refl _)
      | (with_reducible exact LeO.none _)
      | (with_reducible refine LeO.ite ?_ ?_)
      | (with_reducible refine LeO.bind ?_ (fun _ => ?_))
      | exact ih0 _ _ _
      | exact ih1 _ _ _ _ _
      | exact graph_Caps.mono _ _ _
      | exact rate_Sum.mono _ _
      | exact LeO.none _
      | refine LeO.ite ?_ ?_
      | refine LeO.bind ?_ (fun _ => ?_)
theorem graph_May.mono : ∀ a0 a1 k, LeO (graph_May.f k a0 a1) (graph_May.f (k + 1) a0 a1) := by
  intro a0 a1 k
  obtain ⟨ih0, ih1⟩ := graph_May.mono_l k
  unfold graph_May.f
  repeat' first
      | (with_reducible exact ih0 _ _ _)
      | (with_reducible exact ih1 _ _ _ _ _)
      | (with_reducible exact graph_Caps.mono _ _ _)
      | (with_reducible exact rate_Sum.mono _ _)
      | (with_reducible exact LeO.refl _)
      | (with_reducible exact LeO.none _)
      | (with_reducible refine LeO.ite ?_ ?_)
      | (with_reducible refine LeO.bind ?_ (fun _ => ?_))
      | exact ih0 _ _ _
      | exact ih1 _ _ _ _ _
      | exact graph_Caps.mono _ _ _
      | exact rate_Sum.mono _ _
      | exact LeO.none _
      | refine LeO.ite ?_ ?_
      | refine LeO.bind ?_ (fun _ => ?_)
end Go.Proofs.Ytbbdbnikogmidaa.PAll
end

section
/- graph_endsO: more rounds tell the same. Written by a program for this claim. -/
namespace Go.Proofs.Ytbbdbnikogmidaa.PAll
open Go.RowKit Go.Proofs.YtbbdbnikogmidaaW.PrintWords Go.Proofs.YtbbdbnikogmidaaW.PrintLast Go.Proofs.YtbbdbnikogmidaaW.PrintMore
attribute [local go_sem] max2_int min2_int max_two min_two max_three min_three max_four min_four   -- for this text's walks alone
set_option linter.unusedVariables false
set_option linter.unusedSimpArgs false
theorem graph_endsO.mono_l : ∀ k, (∀ y0 y1 y2 y3, LeO (graph_endsO.j0 k y0 y1 y2 y3) (graph_endsO.j0 (k + 1) y0 y1 y2 y3)) ∧ (∀ y0 y1 y2 y3 y4, LeO (graph_endsO.l0 k y0 y1 y2 y3 y4) (graph_endsO.l0 (k + 1) y0 y1 y2 y3 y4))
  | 0 => ⟨fun _ _ _ _ r h => by simp [graph_endsO.j0] at h, fun _ _ _ _ _ r h => by simp [graph_endsO.l0] at h⟩
  | k + 1 => by
    obtain ⟨ih0, ih1⟩ := graph_endsO.mono_l k
    refine ⟨?_, ?_⟩
    · intro y0 y1 y2 y3
      unfold graph_endsO.j0
      repeat' first
      | (with_reducible exact ih0 _ _ _ _)
      | (with_reducible exact ih1 _ _ _ _ _)
      | (with_reducible exact graph_May.mono _ _ _)
      | (with_reducible exact LeO.refl _)
      | (with_reducible exact LeO.none _)
      | (with_reducible refine LeO.ite ?_ ?_)
      | (with_reducible refine LeO.bind ?_ (fun _ => ?_))
      | exact ih0 _ _ _ _
      | exact ih1 _ _ _ _ _
      | exact graph_May.mono _ _ _
      | exact LeO.none _
      | refine LeO.ite ?_ ?_
      | refine LeO.bind ?_ (fun _ => ?_)
    · intro y0 y1 y2 y3 y4
      unfold graph_endsO.l0
      repeat' first
      | (with_reducible exact ih0 _ _ _ _)
      | (with_reducible exact ih1 _ _ _ _ _)
      | (with_reducible exact graph_May.mono _ _ _)
      | (with_reducible exact LeO.refl _)
      | (with_reducible exact LeO.none _)
      | (with_reducible refine LeO.ite ?_ ?_)
      | (with_reducible refine LeO.bind ?_ (fun _ => ?_))
      | exact ih0 _ _ _ _
      | exact ih1 _ _ _ _ _
      | exact graph_May.mono _ _ _
      | exact LeO.none _
      | refine LeO.ite ?_ ?_
      | refine LeO.bind ?_ (fun _ => ?_)
theorem graph_endsO.mono : ∀ a0 a1 a2 k, LeO (graph_endsO.f k a0 a1 a2) (graph_endsO.f (k + 1) a0 a1 a2) := by
  intro a0 a1 a2 k
  obtain ⟨ih0, ih1⟩ := graph_endsO.mono_l k
  unfold graph_endsO.f
  repeat' first
      | (with_reducible exact ih0 _ _ _ _)
      | (with_reducible exact ih1 _ _ _ _ _)
      | (with_reducible exact graph_May.mono _ _ _)
      | (with_reducible exact LeO.refl _)
      | (with_reducible exact LeO.none _)
      | (with_reducible refine LeO.ite ?_ ?_)
      | (with_reducible refine LeO.bind ?_ (fun _ => ?_))
      | exact ih0 _ _ _ _
      | exact ih1 _ _ _ _ _
      | exact graph_May.mono _ _ _
      | exact LeO.none _
      | refine LeO.ite ?_ ?_
      | refine LeO.bind ?_ (fun _ => ?_)
end Go.Proofs.Ytbbdbnikogmidaa.PAll
end

section
/- graph_Out: more rounds tell the same. Written by a program for this claim. -/
namespace Go.Proofs.Ytbbdbnikogmidaa.PAll
open Go.RowKit Go.Proofs.YtbbdbnikogmidaaW.PrintWords Go.Proofs.YtbbdbnikogmidaaW.PrintLast Go.Proofs.YtbbdbnikogmidaaW.PrintMore
attribute [local go_sem] max2_int min2_int max_two min_two max_three min_three max_four min_four   -- for this text's walks alone
set_option linter.unusedVariables false
set_option linter.unusedSimpArgs false
theorem graph_Out.mono : ∀ a0 a1 a2 k, LeO (graph_Out.f k a0 a1 a2) (graph_Out.f (k + 1) a0 a1 a2) := by
  intro a0 a1 a2 k
  unfold graph_Out.f
  repeat' first
      | (with_reducible exact graph_endsO.mono _ _ _ _)
      | (with_reducible exact LeO.refl _)
      | (with_reducible exact LeO.none _)
      | (with_reducible refine LeO.ite ?_ ?_)
      | (with_reducible refine LeO.bind ?_ (fun _ => ?_))
      | exact graph_endsO.mono _ _ _ _
      | exact LeO.none _
      | refine LeO.ite ?_ ?_
      | refine LeO.bind ?_ (fun _ => ?_)
end Go.Proofs.Ytbbdbnikogmidaa.PAll
end

section
/- graph_endsI: more rounds tell the same. Written by a program for this claim. -/
namespace Go.Proofs.Ytbbdbnikogmidaa.PAll
open Go.RowKit Go.Proofs.YtbbdbnikogmidaaW.PrintWords Go.Proofs.YtbbdbnikogmidaaW.PrintLast Go.Proofs.YtbbdbnikogmidaaW.PrintMore
attribute [local go_sem] max2_int min2_int max_two min_two max_three min_three max_four min_four   -- for this text's walks alone
set_option linter.unusedVariables false
set_option linter.unusedSimpArgs false
theorem graph_endsI.mono_l : ∀ k, (∀ y0 y1 y2 y3, LeO (graph_endsI.j0 k y0 y1 y2 y3) (graph_endsI.j0 (k + 1) y0 y1 y2 y3)) ∧ (∀ y0 y1 y2 y3 y4, LeO (graph_endsI.l0 k y0 y1 y2 y3 y4) (graph_endsI.l0 (k + 1) y0 y1 y2 y3 y4))
  | 0 => ⟨fun _ _ _ _ r h => by simp [graph_endsI.j0] at h, fun _ _ _ _ _ r h => by simp [graph_endsI.l0] at h⟩
  | k + 1 => by
    obtain ⟨ih0, ih1⟩ := graph_endsI.mono_l k
    refine ⟨?_, ?_⟩
    · intro y0 y1 y2 y3
      unfold graph_endsI.j0
      repeat' first
      | (with_reducible exact ih0 _ _ _ _)
      | (with_reducible exact ih1 _ _ _ _ _)
      | (with_reducible exact graph_May.mono _ _ _)
      | (with_reducible exact LeO.refl _)
      | (with_reducible exact LeO.none _)
      | (with_reducible refine LeO.ite ?_ ?_)
      | (with_reducible refine LeO.bind ?_ (fun _ => ?_))
      | exact ih0 _ _ _ _
      | exact ih1 _ _ _ _ _
      | exact graph_May.mono _ _ _
      | exact LeO.none _
      | refine LeO.ite ?_ ?_
      | refine LeO.bind ?_ (fun _ => ?_)
    · intro y0 y1 y2 y3 y4
      unfold graph_endsI.l0
      repeat' first
      | (with_reducible exact ih0 _ _ _ _)
      | (with_reducible exact ih1 _ _ _ _ _)
      | (with_reducible exact graph_May.mono _ _ _)
      | (with_reducible exact LeO.refl _)
      | (with_reducible exact LeO.none _)
      | (with_reducible refine LeO.ite ?_ ?_)
      | (with_reducible refine LeO.bind ?_ (fun _ => ?_))
      | exact ih0 _ _ _ _
      | exact ih1 _ _ _ _ _
      | exact graph_May.mono _ _ _
      | exact LeO.none _
      | refine LeO.ite ?_ ?_
      | refine LeO.bind ?_ (fun _ => ?_)
theorem graph_endsI.mono : ∀ a0 a1 a2 k, LeO (graph_endsI.f k a0 a1 a2) (graph_endsI.f (k + 1) a0 a1 a2) := by
  intro a0 a1 a2 k
  obtain ⟨ih0, ih1⟩ := graph_endsI.mono_l k
  unfold graph_endsI.f
  repeat' first
      | (with_reducible exact ih0 _ _ _ _)
      | (with_reducible exact ih1 _ _ _ _ _)
      | (with_reducible exact graph_May.mono _ _ _)
      | (with_reducible exact LeO.refl _)
      | (with_reducible exact LeO.none _)
      | (with_reducible refine LeO.ite ?_ ?_)
      | (with_reducible refine LeO.bind ?_ (fun _ => ?_))
      | exact ih0 _ _ _ _
      | exact ih1 _ _ _ _ _
      | exact graph_May.mono _ _ _
      | exact LeO.none _
      | refine LeO.ite ?_ ?_
      | refine LeO.bind ?_ (fun _ => ?_)
end Go.Proofs.Ytbbdbnikogmidaa.PAll
end

section
/- graph_In: more rounds tell the same. Written by a program for this claim. -/
namespace Go.Proofs.Ytbbdbnikogmidaa.PAll
open Go.RowKit Go.Proofs.YtbbdbnikogmidaaW.PrintWords Go.Proofs.YtbbdbnikogmidaaW.PrintLast Go.Proofs.YtbbdbnikogmidaaW.PrintMore
attribute [local go_sem] max2_int min2_int max_two min_two max_three min_three max_four min_four   -- for this text's walks alone
set_option linter.unusedVariables false
set_option linter.unusedSimpArgs false
theorem graph_In.mono : ∀ a0 a1 a2 k, LeO (graph_In.f k a0 a1 a2) (graph_In.f (k + 1) a0 a1 a2) := by
  intro a0 a1 a2 k
  unfold graph_In.f
  repeat' first
      | (with_reducible exact graph_endsI.mono _ _ _ _)
      | (with_reducible exact LeO.refl _)
      | (with_reducible exact LeO.none _)
      | (with_reducible refine LeO.ite ?_ ?_)
      | (with_reducible refine LeO.bind ?_ (fun _ => ?_))
      | exact graph_endsI.mono _ _ _ _
      | exact LeO.none _
      | refine LeO.ite ?_ ?_
      | refine LeO.bind ?_ (fun _ => ?_)
end Go.Proofs.Ytbbdbnikogmidaa.PAll
end

section
/- graph_Total: more rounds tell the same. Written by a program for this claim. -/
namespace Go.Proofs.Ytbbdbnikogmidaa.PAll
open Go.RowKit Go.Proofs.YtbbdbnikogmidaaW.PrintWords Go.Proofs.YtbbdbnikogmidaaW.PrintLast Go.Proofs.YtbbdbnikogmidaaW.PrintMore
attribute [local go_sem] max2_int min2_int max_two min_two max_three min_three max_four min_four   -- for this text's walks alone
set_option linter.unusedVariables false
set_option linter.unusedSimpArgs false
theorem graph_Total.mono : ∀ a0 a1 k, LeO (graph_Total.f k a0 a1) (graph_Total.f (k + 1) a0 a1) := by
  intro a0 a1 k
  unfold graph_Total.f
  repeat' first
      | (with_reducible exact graph_Caps.mono _ _ _)
      | (with_reducible exact graph_May.mono _ _ _)
      | (with_reducible exact rate_Sum.mono _ _)
      | (with_reducible exact LeO.refl _)
      | (with_reducible exact LeO.none _)
      | (with_reducible refine LeO.ite ?_ ?_)
      | (with_reducible refine LeO.bind ?_ (fun _ => ?_))
      | exact graph_Caps.mono _ _ _
      | exact graph_May.mono _ _ _
      | exact rate_Sum.mono _ _
      | exact LeO.none _
      | refine LeO.ite ?_ ?_
      | refine LeO.bind ?_ (fun _ => ?_)
end Go.Proofs.Ytbbdbnikogmidaa.PAll
end

section
/- tollbarlaw4_awake: more rounds tell the same. Written by a program for this claim. -/
namespace Go.Proofs.Ytbbdbnikogmidaa.PAll
open Go.RowKit Go.Proofs.YtbbdbnikogmidaaW.PrintWords Go.Proofs.YtbbdbnikogmidaaW.PrintLast Go.Proofs.YtbbdbnikogmidaaW.PrintMore
attribute [local go_sem] max2_int min2_int max_two min_two max_three min_three max_four min_four   -- for this text's walks alone
set_option linter.unusedVariables false
set_option linter.unusedSimpArgs false
theorem tollbarlaw4_awake.mono : ∀ k, LeO (tollbarlaw4_awake.f k ) (tollbarlaw4_awake.f (k + 1) ) := by
  intro  k
  unfold tollbarlaw4_awake.f
  repeat' first
      | (with_reducible exact graph_In.mono _ _ _ _)
      | (with_reducible exact graph_May.mono _ _ _)
      | (with_reducible exact graph_Out.mono _ _ _ _)
      | (with_reducible exact graph_Total.mono _ _ _)
      | (with_reducible exact tollbarlaw0_SameInts.mono _ _ _)
      | (with_reducible exact LeO.refl _)
      | (with_reducible exact LeO.none _)
      | (with_reducible refine LeO.ite ?_ ?_)
      | (with_reducible refine LeO.bind ?_ (fun _ => ?_))
      | exact graph_In.mono _ _ _ _
      | exact graph_May.mono _ _ _
      | exact graph_Out.mono _ _ _ _
      | exact graph_Total.mono _ _ _
      | exact tollbarlaw0_SameInts.mono _ _ _
      | exact LeO.none _
      | refine LeO.ite ?_ ?_
      | refine LeO.bind ?_ (fun _ => ?_)
end Go.Proofs.Ytbbdbnikogmidaa.PAll
end
