/- Texts of this claim, one behind the other: M18, M19, M12, M14, M5, M11, M16, M9, M15, M8. -/
import Derived.Test.YtbbdbnikogmidabAed22b2
import Derived.Test.YtbbdbnikogmidabAd94d68
section
/- rate_Sum: more rounds tell the same. Written by a program for this claim. -/
namespace Go.Proofs.Ytbbdbnikogmidab.PAll
open Go.RowKit Go.Proofs.YtbbdbnikogmidabW.PrintWords Go.Proofs.YtbbdbnikogmidabW.PrintLast Go.Proofs.YtbbdbnikogmidabW.PrintMore
attribute [local go_sem] max2_int min2_int max_two min_two max_three min_three max_four min_four   -- for this text's walks alone
set_option linter.unusedVariables false
set_option linter.unusedSimpArgs false
theorem rate_Sum.mono_l : ∀ k, (∀ y0 y1 y2 y3, LeO (rate_Sum.l0 k y0 y1 y2 y3) (rate_Sum.l0 (k + 1) y0 y1 y2 y3))
  | 0 => fun _ _ _ _ r h => by simp [rate_Sum.l0] at h
  | k + 1 => by
    have ih0 := rate_Sum.mono_l k
    · intro y0 y1 y2 y3
      unfold rate_Sum.l0
      repeat' first
      | (with_reducible exact ih0 _ _ _ _)
      | (with_reducible exact LeO.refl _)
      | (with_reducible exact LeO.none _)
      | (with_reducible refine LeO.ite ?_ ?_)
      | (with_reducible refine LeO.bind ?_ (fun _ => ?_))
      | exact ih0 _ _ _ _
      | exact LeO.none _
      | refine LeO.ite ?_ ?_
      | refine LeO.bind ?_ (fun _ => ?_)
theorem rate_Sum.mono : ∀ a0 k, LeO (rate_Sum.f k a0) (rate_Sum.f (k + 1) a0) := by
  intro a0 k
  have ih0 := rate_Sum.mono_l k
  unfold rate_Sum.f
  repeat' first
      | (with_reducible exact ih0 _ _ _ _)
      | (with_reducible exact LeO.refl _)
      | (with_reducible exact LeO.none _)
      | (with_reducible refine LeO.ite ?_ ?_)
      | (with_reducible refine LeO.bind ?_ (fun _ => ?_))
      | exact ih0 _ _ _ _
      | exact LeO.none _
      | refine LeO.ite ?_ ?_
      | refine LeO.bind ?_ (fun _ => ?_)
end Go.Proofs.Ytbbdbnikogmidab.PAll
end

section
/- graph_Caps: more rounds tell the same. Written by a program for this claim. -/
namespace Go.Proofs.Ytbbdbnikogmidab.PAll
open Go.RowKit Go.Proofs.YtbbdbnikogmidabW.PrintWords Go.Proofs.YtbbdbnikogmidabW.PrintLast Go.Proofs.YtbbdbnikogmidabW.PrintMore
attribute [local go_sem] max2_int min2_int max_two min_two max_three min_three max_four min_four   -- for this text's walks alone
set_option linter.unusedVariables false
set_option linter.unusedSimpArgs false
theorem graph_Caps.mono_l : ∀ k, (∀ y0 y1 y2 y3, LeO (graph_Caps.l0 k y0 y1 y2 y3) (graph_Caps.l0 (k + 1) y0 y1 y2 y3))
  | 0 => fun _ _ _ _ r h => by simp [graph_Caps.l0] at h
  | k + 1 => by
    have ih0 := graph_Caps.mono_l k
    · intro y0 y1 y2 y3
      unfold graph_Caps.l0
      repeat' first
      | (with_reducible exact ih0 _ _ _ _)
      | (with_reducible exact LeO.refl _)
      | (with_reducible exact LeO.none _)
      | (with_reducible refine LeO.ite ?_ ?_)
      | (with_reducible refine LeO.bind ?_ (fun _ => ?_))
      | exact ih0 _ _ _ _
      | exact LeO.none _
      | refine LeO.ite ?_ ?_
      | refine LeO.bind ?_ (fun _ => ?_)
theorem graph_Caps.mono : ∀ a0 a1 k, LeO (graph_Caps.f k a0 a1) (graph_Caps.f (k + 1) a0 a1) := by
  intro a0 a1 k
  have ih0 := graph_Caps.mono_l k
  unfold graph_Caps.f
  repeat' first
      | (with_reducible exact ih0 _ _ _ _)
      | (with_reducible exact LeO.refl _)
      | (with_reducible exact LeO.none _)
      | (with_reducible refine LeO.ite ?_ ?_)
      | (with_reducible refine LeO.bind ?_ (fun _ => ?_))
      | exact ih0 _ _ _ _
      | exact LeO.none _
      | refine LeO.ite ?_ ?_
      | refine LeO.bind ?_ (fun _ => ?_)
end Go.Proofs.Ytbbdbnikogmidab.PAll
end

section
/- graph_May: more rounds tell the same. Written by a program for this claim. -/
namespace Go.Proofs.Ytbbdbnikogmidab.PAll
open Go.RowKit Go.Proofs.YtbbdbnikogmidabW.PrintWords Go.Proofs.YtbbdbnikogmidabW.PrintLast Go.Proofs.YtbbdbnikogmidabW.PrintMore
attribute [local go_sem] max2_int min2_int max_two min_two max_three min_three max_four min_four   -- for this text's walks alone
set_option linter.unusedVariables false
set_option linter.unusedSimpArgs false
theorem graph_May.mono_l : ∀ k, (∀ y0 y1 y2, LeO (graph_May.j0 k y0 y1 y2) (graph_May.j0 (k + 1) y0 y1 y2)) ∧ (∀ y0 y1 y2 y3 y4, LeO (graph_May.l0 k y0 y1 y2 y3 y4) (graph_May.l0 (k + 1) y0 y1 y2 y3 y4))
  | 0 => ⟨fun _ _ _ r h => by simp [graph_May.j0] at h, fun _ _ _ _ _ r h => by simp [graph_May.l0] at h⟩
  | k + 1 => by
    obtain ⟨ih0, ih1⟩ := graph_May.mono_l k
    refine ⟨?_, ?_⟩
    · intro y0 y1 y2
      unfold graph_May.j0
      repeat' first
      | (with_reducible exact ih0 _ _ _)
      | (with_reducible exact ih1 _ _ _ _ _)
      | (with_reducible exact graph_Caps.mono _ _ _)
      | (with_reducible exact rate_Sum.mono _ _)
      | (with_reducible exact LeO.refl _)
      | (with_reducible exact LeO.none _)
      | (with_reducible refine LeO.ite ?_ ?_)
      | (with_reducible refine LeO.bind ?_ (fun _ => ?_))
      | exact ih0 _ _ _
      | exact ih1 _ _ _ _ _
      | exact graph_Caps.mono _ _ _
      | exact rate_Sum.mono _ _
      | exact LeO.none _
      | refine LeO.ite ?_ ?_
      | refine LeO.bind ?_ (fun _ => ?_)
    · intro y0 y1 y2 y3 y4
      unfold graph_May.l0
      repeat' first
      | (with_reducible exact ih0 _ _ _)
      | (with_reducible exact ih1 _ _ _ _ _)
      | (with_reducible exact graph_Caps.mono _ _ _)
      | (with_reducible exact rate_Sum.mono _ _)
      | (with_reducible exact LeO.refl _)
      | (with_reducible exact LeO.none _)
      | (with_reducible refine LeO.ite ?_ ?_)
      | (with_reducible refine LeO.bind ?_ (fun _ => ?_))
      | exact ih0 _ _ _
      | exact ih1 _ _ _ _ _
      | exact graph_Caps.mono _ _ _
      | exact rate_Sum.mono _ _
      | exact LeO.none _
      | refine LeO.ite ?_ ?_
      | refine LeO.bind ?_ (fun _ => ?_)
theorem graph_May.mono : ∀ a0 a1 k, LeO (graph_May.f k a0 a1) (graph_May.f (k + 1) a0 a1) := by
  intro a0 a1 k
  obtain ⟨ih0, ih1⟩ := graph_May.mono_l k
  unfold graph_May.f
  repeat' first
      | (with_reducible exact ih0 _ _ _)
      | (with_reducible exact ih1 _ _ _ _ _)
      | (with_reducible exact graph_Caps.mono _ _ _)
      | (with_reducible exact rate_Sum.mono _ _)
      | (with_reducible exact LeO.refl _)
      | (with_reducible exact LeO.none _)
      | (with_reducible refine LeO.ite ?_ ?_)
      | (with_reducible refine LeO.bind ?_ (fun _ => ?_))
      | exact ih0 _ _ _
      | exact ih1 _ _ _ _ _
      | exact graph_Caps.mono _ _ _
      | exact rate_Sum.mono _ _
      | exact LeO.none _
      | refine LeO.ite ?_ ?_
      | refine LeO.bind ?_ (fun _ => ?_)
end Go.Proofs.Ytbbdbnikogmidab.PAll
end

section
/- arcs_row: more rounds tell the same. Written by a program for this claim. -/
namespace Go.Proofs.Ytbbdbnikogmidab.PAll
open Go.RowKit Go.Proofs.YtbbdbnikogmidabW.PrintWords Go.Proofs.YtbbdbnikogmidabW.PrintLast Go.Proofs.YtbbdbnikogmidabW.PrintMore
attribute [local go_sem] max2_int min2_int max_two min_two max_three min_three max_four min_four   -- for this text's walks alone
set_option linter.unusedVariables false
set_option linter.unusedSimpArgs false
theorem arcs_row.mono_l : ∀ k, (∀ y0 y1 y2 y3 y4 y5, LeO (arcs_row.l0 k y0 y1 y2 y3 y4 y5) (arcs_row.l0 (k + 1) y0 y1 y2 y3 y4 y5))
  | 0 => fun _ _ _ _ _ _ r h => by simp [arcs_row.l0] at h
  | k + 1 => by
    have ih0 := arcs_row.mono_l k
    · intro y0 y1 y2 y3 y4 y5
      unfold arcs_row.l0
      repeat' first
      | (with_reducible exact ih0 _ _ _ _ _ _)
      | (with_reducible exact LeO.refl _)
      | (with_reducible exact LeO.none _)
      | (with_reducible refine LeO.ite ?_ ?_)
      | (with_reducible refine LeO.bind ?_ (fun _ => ?_))
      | exact ih0 _ _ _ _ _ _
      | exact LeO.none _
      | refine LeO.ite ?_ ?_
      | refine LeO.bind ?_ (fun _ => ?_)
theorem arcs_row.mono : ∀ a0 a1 a2 k, LeO (arcs_row.f k a0 a1 a2) (arcs_row.f (k + 1) a0 a1 a2) := by
  intro a0 a1 a2 k
  have ih0 := arcs_row.mono_l k
  unfold arcs_row.f
  repeat' first
      | (with_reducible exact ih0 _ _ _ _ _ _)
      | (with_reducible exact LeO.refl _)
      | (with_reducible exact LeO.none _)
      | (with_reducible refine LeO.ite ?_ ?_)
      | (with_reducible refine LeO.bind ?_ (fun _ => ?_))
      | exact ih0 _ _ _ _ _ _
      | exact LeO.none _
      | refine LeO.ite ?_ ?_
      | refine LeO.bind ?_ (fun _ => ?_)
end Go.Proofs.Ytbbdbnikogmidab.PAll
end

section
/- arcs_Build: more rounds tell the same. Written by a program for this claim. -/
namespace Go.Proofs.Ytbbdbnikogmidab.PAll
open Go.RowKit Go.Proofs.YtbbdbnikogmidabW.PrintWords Go.Proofs.YtbbdbnikogmidabW.PrintLast Go.Proofs.YtbbdbnikogmidabW.PrintMore
attribute [local go_sem] max2_int min2_int max_two min_two max_three min_three max_four min_four   -- for this text's walks alone
set_option linter.unusedVariables false
set_option linter.unusedSimpArgs false
theorem arcs_Build.mono_l : ∀ k, (∀ y0 y1 y2 y3 y4, LeO (arcs_Build.l0 k y0 y1 y2 y3 y4) (arcs_Build.l0 (k + 1) y0 y1 y2 y3 y4)) ∧ (∀ y0 y1 y2 y3 y4 y5 y6, LeO (arcs_Build.l1 k y0 y1 y2 y3 y4 y5 y6) (arcs_Build.l1 (k + 1) y0 y1 y2 y3 y4 y5 y6))
  | 0 => ⟨fun _ _ _ _ _ r h => by simp [arcs_Build.l0] at h, fun _ _ _ _ _ _ _ r h => by simp [arcs_Build.l1] at h⟩
  | k + 1 => by
    obtain ⟨ih0, ih1⟩ := arcs_Build.mono_l k
    refine ⟨?_, ?_⟩
    · intro y0 y1 y2 y3 y4
      unfold arcs_Build.l0
      repeat' first
      | (with_reducible exact ih0 _ _ _ _ _)
      | (with_reducible exact ih1 _ _ _ _ _ _ _)
      | (with_reducible exact arcs_row.mono _ _ _ _)
      | (with_reducible exact graph_May.mono _ _ _)
      | (with_reducible exact LeO.refl _)
      | (with_reducible exact LeO.none _)
      | (with_reducible refine LeO.ite ?_ ?_)
      | (with_reducible refine LeO.bind ?_ (fun _ => ?_))
      | exact ih0 _ _ _ _ _
      | exact ih1 _ _ _ _ _ _ _
      | exact arcs_row.mono _ _ _ _
      | exact graph_May.mono _ _ _
      | exact LeO.none _
      | refine LeO.ite ?_ ?_
      | refine LeO.bind ?_ (fun _ => ?_)
    · intro y0 y1 y2 y3 y4 y5 y6
      unfold arcs_Build.l1
      repeat' first
      | (with_reducible exact ih0 _ _ _ _ _)
      | (with_reducible exact ih1 _ _ _ _ _ _ _)
      | (with_reducible exact arcs_row.mono _ _ _ _)
      | (with_reducible exact graph_May.mono _ _ _)
      | (with_reducible exact LeO.refl _)
      | (with_reducible exact LeO.none _)
      | (with_reducible refine LeO.ite ?_ ?_)
      | (with_reducible refine LeO.bind ?_ (fun _ => ?_))
      | exact ih0 _ _ _ _ _
      | exact ih1 _ _ _ _ _ _ _
      | exact arcs_row.mono _ _ _ _
      | exact graph_May.mono _ _ _
      | exact LeO.none _
      | refine LeO.ite ?_ ?_
      | refine LeO.bind ?_ (fun _ => ?_)
theorem arcs_Build.mono : ∀ a0 a1 k, LeO (arcs_Build.f k a0 a1) (arcs_Build.f (k + 1) a0 a1) := by
  intro a0 a1 k
  obtain ⟨ih0, ih1⟩ := arcs_Build.mono_l k
  unfold arcs_Build.f
  repeat' first
      | (with_reducible exact ih0 _ _ _ _ _)
      | (with_reducible exact ih1 _ _ _ _ _ _ _)
      | (with_reducible exact arcs_row.mono _ _ _ _)
      | (with_reducible exact graph_May.mono _ _ _)
      | (with_reducible exact LeO.refl _)
      | (with_reducible exact LeO.none _)
      | (with_reducible refine LeO.ite ?_ ?_)
      | (with_reducible refine LeO.bind ?_ (fun _ => ?_))
      | exact ih0 _ _ _ _ _
      | exact ih1 _ _ _ _ _ _ _
      | exact arcs_row.mono _ _ _ _
      | exact graph_May.mono _ _ _
      | exact LeO.none _
      | refine LeO.ite ?_ ?_
      | refine LeO.bind ?_ (fun _ => ?_)
end Go.Proofs.Ytbbdbnikogmidab.PAll
end

section
/- arcs_Row: more rounds tell the same. Written by a program for this claim. -/
namespace Go.Proofs.Ytbbdbnikogmidab.PAll
open Go.RowKit Go.Proofs.YtbbdbnikogmidabW.PrintWords Go.Proofs.YtbbdbnikogmidabW.PrintLast Go.Proofs.YtbbdbnikogmidabW.PrintMore
attribute [local go_sem] max2_int min2_int max_two min_two max_three min_three max_four min_four   -- for this text's walks alone
set_option linter.unusedVariables false
set_option linter.unusedSimpArgs false
theorem arcs_Row.mono : ∀ a0 a1 a2 k, LeO (arcs_Row.f k a0 a1 a2) (arcs_Row.f (k + 1) a0 a1 a2) := by
  intro a0 a1 a2 k
  unfold arcs_Row.f
  repeat' first
      | (with_reducible exact arcs_row.mono _ _ _ _)
      | (with_reducible exact graph_May.mono _ _ _)
      | (with_reducible exact LeO.refl _)
      | (with_reducible exact LeO.none _)
      | (with_reducible refine LeO.ite ?_ ?_)
      | (with_reducible refine LeO.bind ?_ (fun _ => ?_))
      | exact arcs_row.mono _ _ _ _
      | exact graph_May.mono _ _ _
      | exact LeO.none _
      | refine LeO.ite ?_ ?_
      | refine LeO.bind ?_ (fun _ => ?_)
end Go.Proofs.Ytbbdbnikogmidab.PAll
end

section
/- tollbarref19_SameInts: more rounds tell the same. Written by a program for this claim. -/
namespace Go.Proofs.Ytbbdbnikogmidab.PAll
open Go.RowKit Go.Proofs.YtbbdbnikogmidabW.PrintWords Go.Proofs.YtbbdbnikogmidabW.PrintLast Go.Proofs.YtbbdbnikogmidabW.PrintMore
attribute [local go_sem] max2_int min2_int max_two min_two max_three min_three max_four min_four   -- for this text's walks alone
set_option linter.unusedVariables false
set_option linter.unusedSimpArgs false
theorem tollbarref19_SameInts.mono_l : ∀ k, (∀ y0 y1 y2, LeO (tollbarref19_SameInts.l0 k y0 y1 y2) (tollbarref19_SameInts.l0 (k + 1) y0 y1 y2))
  | 0 => fun _ _ _ r h => by simp [tollbarref19_SameInts.l0] at h
  | k + 1 => by
    have ih0 := tollbarref19_SameInts.mono_l k
    · intro y0 y1 y2
      unfold tollbarref19_SameInts.l0
      repeat' first
      | (with_reducible exact ih0 _ _ _)
      | (with_reducible exact LeO.refl _)
      | (with_reducible exact LeO.none _)
      | (with_reducible refine LeO.ite ?_ ?_)
      | (with_reducible refine LeO.bind ?_ (fun _ => ?_))
      | exact ih0 _ _ _
      | exact LeO.none _
      | refine LeO.ite ?_ ?_
      | refine LeO.bind ?_ (fun _ => ?_)
theorem tollbarref19_SameInts.mono : ∀ a0 a1 k, LeO (tollbarref19_SameInts.f k a0 a1) (tollbarref19_SameInts.f (k + 1) a0 a1) := by
  intro a0 a1 k
  have ih0 := tollbarref19_SameInts.mono_l k
  unfold tollbarref19_SameInts.f
  repeat' first
      | (with_reducible exact ih0 _ _ _)
      | (with_reducible exact LeO.refl _)
      | (with_reducible exact LeO.none _)
      | (with_reducible refine LeO.ite ?_ ?_)
      | (with_reducible refine LeO.bind ?_ (fun _ => ?_))
      | exact ih0 _ _ _
      | exact LeO.none _
      | refine LeO.ite ?_ ?_
      | refine LeO.bind ?_ (fun _ => ?_)
end Go.Proofs.Ytbbdbnikogmidab.PAll
end

section
/- tollbarlaw0_SameInts: more rounds tell the same. Written by a program for this claim. -/
namespace Go.Proofs.Ytbbdbnikogmidab.PAll
open Go.RowKit Go.Proofs.YtbbdbnikogmidabW.PrintWords Go.Proofs.YtbbdbnikogmidabW.PrintLast Go.Proofs.YtbbdbnikogmidabW.PrintMore
attribute [local go_sem] max2_int min2_int max_two min_two max_three min_three max_four min_four   -- for this text's walks alone
set_option linter.unusedVariables false
set_option linter.unusedSimpArgs false
theorem tollbarlaw0_SameInts.mono : ∀ a0 a1 k, LeO (tollbarlaw0_SameInts.f k a0 a1) (tollbarlaw0_SameInts.f (k + 1) a0 a1) := by
  intro a0 a1 k
  unfold tollbarlaw0_SameInts.f
  repeat' first
      | (with_reducible exact tollbarref19_SameInts.mono _ _ _)
      | (with_reducible exact LeO.refl _)
      | (with_reducible exact LeO.none _)
      | (with_reducible refine LeO.ite ?_ ?_)
      | (with_reducible refine LeO.bind ?_ (fun _ => ?_))
      | exact tollbarref19_SameInts.mono _ _ _
      | exact LeO.none _
      | refine LeO.ite ?_ ?_
      | refine LeO.bind ?_ (fun _ => ?_)
end Go.Proofs.Ytbbdbnikogmidab.PAll
end

section
/- tollbarlaw0_SameArcs: more rounds tell the same. Written by a program for this claim. -/
namespace Go.Proofs.Ytbbdbnikogmidab.PAll
open Go.RowKit Go.Proofs.YtbbdbnikogmidabW.PrintWords Go.Proofs.YtbbdbnikogmidabW.PrintLast Go.Proofs.YtbbdbnikogmidabW.PrintMore
attribute [local go_sem] max2_int min2_int max_two min_two max_three min_three max_four min_four   -- for this text's walks alone
set_option linter.unusedVariables false
set_option linter.unusedSimpArgs false
theorem tollbarlaw0_SameArcs.mono : ∀ a0 a1 a2 a3 a4 a5 k, LeO (tollbarlaw0_SameArcs.f k a0 a1 a2 a3 a4 a5) (tollbarlaw0_SameArcs.f (k + 1) a0 a1 a2 a3 a4 a5) := by
  intro a0 a1 a2 a3 a4 a5 k
  unfold tollbarlaw0_SameArcs.f
  repeat' first
      | (with_reducible exact tollbarlaw0_SameInts.mono _ _ _)
      | (with_reducible exact LeO.refl _)
      | (with_reducible exact LeO.none _)
      | (with_reducible refine LeO.ite ?_ ?_)
      | (with_reducible refine LeO.bind ?_ (fun _ => ?_))
      | exact tollbarlaw0_SameInts.mono _ _ _
      | exact LeO.none _
      | refine LeO.ite ?_ ?_
      | refine LeO.bind ?_ (fun _ => ?_)
end Go.Proofs.Ytbbdbnikogmidab.PAll
end

section
/- tollbarlaw5_awake: more rounds tell the same. Written by a program for this claim. -/
namespace Go.Proofs.Ytbbdbnikogmidab.PAll
open Go.RowKit Go.Proofs.YtbbdbnikogmidabW.PrintWords Go.Proofs.YtbbdbnikogmidabW.PrintLast Go.Proofs.YtbbdbnikogmidabW.PrintMore
attribute [local go_sem] max2_int min2_int max_two min_two max_three min_three max_four min_four   -- for this text's walks alone
set_option linter.unusedVariables false
set_option linter.unusedSimpArgs false
theorem tollbarlaw5_awake.mono : ∀ k, LeO (tollbarlaw5_awake.f k ) (tollbarlaw5_awake.f (k + 1) ) := by
  intro  k
  unfold tollbarlaw5_awake.f
  repeat' first
      | (with_reducible exact arcs_Build.mono _ _ _)
      | (with_reducible exact arcs_Row.mono _ _ _ _)
      | (with_reducible exact tollbarlaw0_SameArcs.mono _ _ _ _ _ _ _)
      | (with_reducible exact tollbarlaw0_SameInts.mono _ _ _)
      | (with_reducible exact LeO.refl _)
      | (with_reducible exact LeO.none _)
      | (with_reducible refine LeO.ite ?_ ?_)
      | (with_reducible refine LeO.bind ?_ (fun _ => ?_))
      | exact arcs_Build.mono _ _ _
      | exact arcs_Row.mono _ _ _ _
      | exact tollbarlaw0_SameArcs.mono _ _ _ _ _ _ _
      | exact tollbarlaw0_SameInts.mono _ _ _
      | exact LeO.none _
      | refine LeO.ite ?_ ?_
      | refine LeO.bind ?_ (fun _ => ?_)
end Go.Proofs.Ytbbdbnikogmidab.PAll
end
