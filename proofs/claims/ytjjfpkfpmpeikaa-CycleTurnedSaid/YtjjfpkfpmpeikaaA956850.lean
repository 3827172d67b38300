/- Texts of this claim, one behind the other: M49, M66, M62, M60, M48, M32, M52, M50, M51, M53, M33, M11, M38, M39, M19, M40, M22, M13. -/
import Derived.Test.YtjjfpkfpmpeikaaA95321a
import Derived.Test.YtjjfpkfpmpeikaaA514c28
section
/- graph_Caps: more rounds tell the same. Written by a program for this claim. -/
namespace Go.Proofs.Ytjjfpkfpmpeikaa.PAll
open Go.RowKit Go.Proofs.YtjjfpkfpmpeikaaW.PrintWords Go.Proofs.YtjjfpkfpmpeikaaW.PrintLast Go.Proofs.YtjjfpkfpmpeikaaW.PrintMore
attribute [local go_sem] max2_int min2_int max_two min_two max_three min_three max_four min_four   -- for this text's walks alone
set_option linter.unusedVariables false
set_option linter.unusedSimpArgs false
theorem graph_Caps.mono_l : ∀ k, (∀ y0 y1 y2 y3, LeO (graph_Caps.l0 k y0 y1 y2 y3) (graph_Caps.l0 (k + 1) y0 y1 y2 y3))
  | 0 => fun _ _ _ _ r h => by simp [graph_Caps.l0] at h
  | k + 1 => by
    have ih0 := graph_Caps.mono_l k
    · intro y0 y1 y2 y3
      unfold graph_Caps.l0
      repeat' first
      | (with_reducible exact ih0 _ _ _ _)
      | (with_reducible exact LeO.refl _)
      | (with_reducible exact LeO.none _)
      | (with_reducible refine LeO.ite ?_ ?_)
      | (with_reducible refine LeO.bind ?_ (fun _ => ?_))
      | exact ih0 _ _ _ _
      | exact LeO.none _
      | refine LeO.ite ?_ ?_
      | refine LeO.bind ?_ (fun _ => ?_)
theorem graph_Caps.mono : ∀ a0 a1 k, LeO (graph_Caps.f k a0 a1) (graph_Caps.f (k + 1) a0 a1) := by
  intro a0 a1 k
  have ih0 := graph_Caps.mono_l k
  unfold graph_Caps.f
  repeat' first
      | (with_reducible exact ih0 _ _ _ _)
      | (with_reducible exact LeO.refl _)
      | (with_reducible exact LeO.none _)
      | (with_reducible refine LeO.ite ?_ ?_)
      | (with_reducible refine LeO.bind ?_ (fun _ => ?_))
      | exact ih0 _ _ _ _
      | exact LeO.none _
      | refine LeO.ite ?_ ?_
      | refine LeO.bind ?_ (fun _ => ?_)
end Go.Proofs.Ytjjfpkfpmpeikaa.PAll
end

section
/- rate_Sum: more rounds tell the same. Written by a program for this claim. -/
namespace Go.Proofs.Ytjjfpkfpmpeikaa.PAll
open Go.RowKit Go.Proofs.YtjjfpkfpmpeikaaW.PrintWords Go.Proofs.YtjjfpkfpmpeikaaW.PrintLast Go.Proofs.YtjjfpkfpmpeikaaW.PrintMore
attribute [local go_sem] max2_int min2_int max_two min_two max_three min_three max_four min_four   -- for this text's walks alone
set_option linter.unusedVariables false
set_option linter.unusedSimpArgs false
theorem rate_Sum.mono_l : ∀ k, (∀ y0 y1 y2 y3, LeO (rate_Sum.l0 k y0 y1 y2 y3) (rate_Sum.l0 (k + 1) y0 y1 y2 y3))
  | 0 => fun _ _ _ _ r h => by simp [rate_Sum.l0] at h
  | k + 1 => by
    have ih0 := rate_Sum.mono_l k
    · intro y0 y1 y2 y3
      unfold rate_Sum.l0
      repeat' first
      | (with_reducible exact ih0 _ _ _ _)
      | (with_reducible exact LeO.refl _)
      | (with_reducible exact LeO.none _)
      | (with_reducible refine LeO.ite ?_ ?_)
      | (with_reducible refine LeO.bind ?_ (fun _ => ?_))
      | exact ih0 _ _ _ _
      | exact LeO.none _
      | refine LeO.ite ?_ ?_
      | refine LeO.bind ?_ (fun _ => ?_)
theorem rate_Sum.mono : ∀ a0 k, LeO (rate_Sum.f k a0) (rate_Sum.f (k + 1) a0) := by
  intro a0 k
  have ih0 := rate_Sum.mono_l k
  unfold rate_Sum.f
  repeat' first
      | (with_reducible exact ih0 _ _ _ _)
      | (with_reducible exact LeO.refl _)
      | (with_reducible exact LeO.none _)
      | (with_reducible refine LeO.ite ?_ ?_)
      | (with_reducible refine LeO.bind ?_ (fun _ => ?_))
      | exact ih0 _ _ _ _
      | exact LeO.none _
      | refine LeO.ite ?_ ?_
      | refine LeO.bind ?_ (fun _ => ?_)
end Go.Proofs.Ytjjfpkfpmpeikaa.PAll
end

section
/- graph_May: more rounds tell the same. Written by a program for this claim. -/
namespace Go.Proofs.Ytjjfpkfpmpeikaa.PAll
open Go.RowKit Go.Proofs.YtjjfpkfpmpeikaaW.PrintWords Go.Proofs.YtjjfpkfpmpeikaaW.PrintLast Go.Proofs.YtjjfpkfpmpeikaaW.PrintMore
attribute [local go_sem] max2_int min2_int max_two min_two max_three min_three max_four min_four   -- for this text's walks alone
set_option linter.unusedVariables false
set_option linter.unusedSimpArgs false
theorem graph_May.mono_l : ∀ k, (∀ y0 y1 y2, LeO (graph_May.j0 k y0 y1 y2) (graph_May.j0 (k + 1) y0 y1 y2)) ∧ (∀ y0 y1 y2 y3 y4, LeO (graph_May.l0 k y0 y1 y2 y3 y4) (graph_May.l0 (k + 1) y0 y1 y2 y3 y4))
  | 0 => ⟨fun _ _ _ r h => by simp [graph_May.j0] at h, fun _ _ _ _ _ r h => by simp [graph_May.l0] at h⟩
  | k + 1 => by
    obtain ⟨ih0, ih1⟩ := graph_May.mono_l k
    refine ⟨?_, ?_⟩
    · intro y0 y1 y2
      unfold graph_May.j0
      repeat' first
      | (with_reducible exact ih0 _ _ _)
      | (with_reducible exact ih1 _ _ _ _ _)
      | (with_reducible exact graph_Caps.mono _ _ _)
      | (with_reducible exact rate_Sum.mono _ _)
      | (with_reducible exact LeO.refl _)
      | (with_reducible exact LeO.none _)
      | (with_reducible refine LeO.ite ?_ ?_)
      | (with_reducible refine LeO.bind ?_ (fun _ => ?_))
      | exact ih0 _ _ _
      | exact ih1 _ _ _ _ _
      | exact graph_Caps.mono _ _ _
      | exact rate_Sum.mono _ _
      | exact LeO.none _
      | refine LeO.ite ?_ ?_
      | refine LeO.bind ?_ (fun _ => ?_)
    · intro y0 y1 y2 y3 y4
      unfold graph_May.l0
      repeat' first
      | (with_reducible exact ih0 _ _ _)
      | (with_reducible exact ih1 _ _ _ _ _)
      | (with_reducible exact graph_Caps.mono _ _ _)
      | (with_reducible exact rate_Sum.mono _ _)
      | (with_reducible exact LeO.refl _)
      | (with_reducible exact LeO.none _)
      | (with_reducible refine LeO.ite ?_ ?_)
      | (with_reducible refine LeO.bind ?_ (fun _ => ?_))
      | exact ih0 _ _ _
      | exact ih1 _ _ _ _ _
      | exact graph_Caps.mono _ _ _
      | exact rate_Sum.mono _ _
      | exact LeO.none _
      | refine LeO.ite ?_ ?_
      | refine LeO.bind ?_ (fun _ => ?_)
theorem graph_May.mono : ∀ a0 a1 k, LeO (graph_May.f k a0 a1) (graph_May.f (k + 1) a0 a1) := by
  intro a0 a1 k
  obtain ⟨ih0, ih1⟩ := graph_May.mono_l k
  unfold graph_May.f
  repeat' first
      | (with_reducible exact ih0 _ _ _)
      | (with_reducible exact ih1 _ _ _ _ _)
      | (with_reducible exact graph_Caps.mono _ _ _)
      | (with_reducible exact rate_Sum.mono _ _)
      | (with_reducible exact LeO.refl _)
      | (with_reducible exact LeO.none _)
      | (with_reducible refine LeO.ite ?_ ?_)
      | (with_reducible refine LeO.bind ?_ (fun _ => ?_))
      | exact ih0 _ _ _
      | exact ih1 _ _ _ _ _
      | exact graph_Caps.mono _ _ _
      | exact rate_Sum.mono _ _
      | exact LeO.none _
      | refine LeO.ite ?_ ?_
      | refine LeO.bind ?_ (fun _ => ?_)
end Go.Proofs.Ytjjfpkfpmpeikaa.PAll
end

section
/- graph_Takes: more rounds tell the same. Written by a program for this claim. -/
namespace Go.Proofs.Ytjjfpkfpmpeikaa.PAll
open Go.RowKit Go.Proofs.YtjjfpkfpmpeikaaW.PrintWords Go.Proofs.YtjjfpkfpmpeikaaW.PrintLast Go.Proofs.YtjjfpkfpmpeikaaW.PrintMore
attribute [local go_sem] max2_int min2_int max_two min_two max_three min_three max_four min_four   -- for this text's walks alone
set_option linter.unusedVariables false
set_option linter.unusedSimpArgs false
theorem graph_Takes.mono_l : ∀ k, (∀ y0 y1 y2 y3, LeO (graph_Takes.j0 k y0 y1 y2 y3) (graph_Takes.j0 (k + 1) y0 y1 y2 y3)) ∧ (∀ y0 y1 y2 y3 y4, LeO (graph_Takes.l0 k y0 y1 y2 y3 y4) (graph_Takes.l0 (k + 1) y0 y1 y2 y3 y4))
  | 0 => ⟨fun _ _ _ _ r h => by simp [graph_Takes.j0] at h, fun _ _ _ _ _ r h => by simp [graph_Takes.l0] at h⟩
  | k + 1 => by
    obtain ⟨ih0, ih1⟩ := graph_Takes.mono_l k
    refine ⟨?_, ?_⟩
    · intro y0 y1 y2 y3
      unfold graph_Takes.j0
      repeat' first
      | (with_reducible exact ih0 _ _ _ _)
      | (with_reducible exact ih1 _ _ _ _ _)
      | (with_reducible exact graph_May.mono _ _ _)
      | (with_reducible exact LeO.refl _)
      | (with_reducible exact LeO.none _)
      | (with_reducible refine LeO.ite ?_ ?_)
      | (with_reducible refine LeO.bind ?_ (fun _ => ?_))
      | exact ih0 _ _ _ _
      | exact ih1 _ _ _ _ _
      | exact graph_May.mono _ _ _
      | exact LeO.none _
      | refine LeO.ite ?_ ?_
      | refine LeO.bind ?_ (fun _ => ?_)
    · intro y0 y1 y2 y3 y4
      unfold graph_Takes.l0
      repeat' first
      | (with_reducible exact ih0 _ _ _ _)
      | (with_reducible exact ih1 _ _ _ _ _)
      | (with_reducible exact graph_May.mono _ _ _)
      | (with_reducible exact LeO.refl _)
      | (with_reducible exact LeO.none _)
      | (with_reducible refine LeO.ite ?_ ?_)
      | (with_reducible refine LeO.bind ?_ (fun _ => ?_))
      | exact ih0 _ _ _ _
      | exact ih1 _ _ _ _ _
      | exact graph_May.mono _ _ _
      | exact LeO.none _
      | refine LeO.ite ?_ ?_
      | refine LeO.bind ?_ (fun _ => ?_)
theorem graph_Takes.mono : ∀ a0 a1 a2 k, LeO (graph_Takes.f k a0 a1 a2) (graph_Takes.f (k + 1) a0 a1 a2) := by
  intro a0 a1 a2 k
  obtain ⟨ih0, ih1⟩ := graph_Takes.mono_l k
  unfold graph_Takes.f
  repeat' first
      | (with_reducible exact ih0 _ _ _ _)
      | (with_reducible exact ih1 _ _ _ _ _)
      | (with_reducible exact graph_May.mono _ _ _)
      | (with_reducible exact LeO.refl _)
      | (with_reducible exact LeO.none _)
      | (with_reducible refine LeO.ite ?_ ?_)
      | (with_reducible refine LeO.bind ?_ (fun _ => ?_))
      | exact ih0 _ _ _ _
      | exact ih1 _ _ _ _ _
      | exact graph_May.mono _ _ _
      | exact LeO.none _
      | refine LeO.ite ?_ ?_
      | refine LeO.bind ?_ (fun _ => ?_)
end Go.Proofs.Ytjjfpkfpmpeikaa.PAll
end

section
/- stream_Lies: more rounds tell the same. Written by a program for this claim. -/
namespace Go.Proofs.Ytjjfpkfpmpeikaa.PAll
open Go.RowKit Go.Proofs.YtjjfpkfpmpeikaaW.PrintWords Go.Proofs.YtjjfpkfpmpeikaaW.PrintLast Go.Proofs.YtjjfpkfpmpeikaaW.PrintMore
attribute [local go_sem] max2_int min2_int max_two min_two max_three min_three max_four min_four   -- for this text's walks alone
set_option linter.unusedVariables false
set_option linter.unusedSimpArgs false
theorem stream_Lies.mono_l : ∀ k, (∀ y0 y1 y2, LeO (stream_Lies.j0 k y0 y1 y2) (stream_Lies.j0 (k + 1) y0 y1 y2)) ∧ (∀ y0 y1 y2 y3, LeO (stream_Lies.l0 k y0 y1 y2 y3) (stream_Lies.l0 (k + 1) y0 y1 y2 y3))
  | 0 => ⟨fun _ _ _ r h => by simp [stream_Lies.j0] at h, fun _ _ _ _ r h => by simp [stream_Lies.l0] at h⟩
  | k + 1 => by
    obtain ⟨ih0, ih1⟩ := stream_Lies.mono_l k
    refine ⟨?_, ?_⟩
    · intro y0 y1 y2
      unfold stream_Lies.j0
      repeat' first
      | (with_reducible exact ih0 _ _ _)
      | (with_reducible exact ih1 _ _ _ _)
      | (with_reducible exact graph_Takes.mono _ _ _ _)
      | (with_reducible exact LeO.refl _)
      | (with_reducible exact LeO.none _)
      | (with_reducible refine LeO.ite ?_ ?_)
      | (with_reducible refine LeO.bind ?_ (fun _ => ?_))
      | exact ih0 _ _ _
      | exact ih1 _ _ _ _
      | exact graph_Takes.mono _ _ _ _
      | exact LeO.none _
      | refine LeO.ite ?_ ?_
      | refine LeO.bind ?_ (fun _ => ?_)
    · intro y0 y1 y2 y3
      unfold stream_Lies.l0
      repeat' first
      | (with_reducible exact ih0 _ _ _)
      | (with_reducible exact ih1 _ _ _ _)
      | (with_reducible exact graph_Takes.mono _ _ _ _)
      | (with_reducible exact LeO.refl _)
      | (with_reducible exact LeO.none _)
      | (with_reducible refine LeO.ite ?_ ?_)
      | (with_reducible refine LeO.bind ?_ (fun _ => ?_))
      | exact ih0 _ _ _
      | exact ih1 _ _ _ _
      | exact graph_Takes.mono _ _ _ _
      | exact LeO.none _
      | refine LeO.ite ?_ ?_
      | refine LeO.bind ?_ (fun _ => ?_)
theorem stream_Lies.mono : ∀ a0 a1 a2 a3 k, LeO (stream_Lies.f k a0 a1 a2 a3) (stream_Lies.f (k + 1) a0 a1 a2 a3) := by
  intro a0 a1 a2 a3 k
  obtain ⟨ih0, ih1⟩ := stream_Lies.mono_l k
  unfold stream_Lies.f
  repeat' first
      | (with_reducible exact ih0 _ _ _)
      | (with_reducible exact ih1 _ _ _ _)
      | (with_reducible exact graph_Takes.mono _ _ _ _)
      | (with_reducible exact LeO.refl _)
      | (with_reducible exact LeO.none _)
      | (with_reducible refine LeO.ite ?_ ?_)
      | (with_reducible refine LeO.bind ?_ (fun _ => ?_))
      | exact ih0 _ _ _
      | exact ih1 _ _ _ _
      | exact graph_Takes.mono _ _ _ _
      | exact LeO.none _
      | refine LeO.ite ?_ ?_
      | refine LeO.bind ?_ (fun _ => ?_)
end Go.Proofs.Ytjjfpkfpmpeikaa.PAll
end

section
/- cycle_lies: more rounds tell the same. Written by a program for this claim. -/
namespace Go.Proofs.Ytjjfpkfpmpeikaa.PAll
open Go.RowKit Go.Proofs.YtjjfpkfpmpeikaaW.PrintWords Go.Proofs.YtjjfpkfpmpeikaaW.PrintLast Go.Proofs.YtjjfpkfpmpeikaaW.PrintMore
attribute [local go_sem] max2_int min2_int max_two min_two max_three min_three max_four min_four   -- for this text's walks alone
set_option linter.unusedVariables false
set_option linter.unusedSimpArgs false
theorem cycle_lies.mono : ∀ a0 a1 a2 k, LeO (cycle_lies.f k a0 a1 a2) (cycle_lies.f (k + 1) a0 a1 a2) := by
  intro a0 a1 a2 k
  unfold cycle_lies.f
  repeat' first
      | (with_reducible exact graph_Caps.mono _ _ _)
      | (with_reducible exact stream_Lies.mono _ _ _ _ _)
      | (with_reducible exact LeO.refl _)
      | (with_reducible exact LeO.none _)
      | (with_reducible refine LeO.ite ?_ ?_)
      | (with_reducible refine LeO.bind ?_ (fun _ => ?_))
      | exact graph_Caps.mono _ _ _
      | exact stream_Lies.mono _ _ _ _ _
      | exact LeO.none _
      | refine LeO.ite ?_ ?_
      | refine LeO.bind ?_ (fun _ => ?_)
end Go.Proofs.Ytjjfpkfpmpeikaa.PAll
end

section
/- cycle_on: more rounds tell the same. Written by a program for this claim. -/
namespace Go.Proofs.Ytjjfpkfpmpeikaa.PAll
open Go.RowKit Go.Proofs.YtjjfpkfpmpeikaaW.PrintWords Go.Proofs.YtjjfpkfpmpeikaaW.PrintLast Go.Proofs.YtjjfpkfpmpeikaaW.PrintMore
attribute [local go_sem] max2_int min2_int max_two min_two max_three min_three max_four min_four   -- for this text's walks alone
set_option linter.unusedVariables false
set_option linter.unusedSimpArgs false
theorem cycle_on.mono_l : ∀ k, (∀ y0 y1 y2 y3 y4 y5, LeO (cycle_on.l0 k y0 y1 y2 y3 y4 y5) (cycle_on.l0 (k + 1) y0 y1 y2 y3 y4 y5))
  | 0 => fun _ _ _ _ _ _ r h => by simp [cycle_on.l0] at h
  | k + 1 => by
    have ih0 := cycle_on.mono_l k
    · intro y0 y1 y2 y3 y4 y5
      unfold cycle_on.l0
      repeat' first
      | (with_reducible exact ih0 _ _ _ _ _ _)
      | (with_reducible exact LeO.refl _)
      | (with_reducible exact LeO.none _)
      | (with_reducible refine LeO.ite ?_ ?_)
      | (with_reducible refine LeO.bind ?_ (fun _ => ?_))
      | exact ih0 _ _ _ _ _ _
      | exact LeO.none _
      | refine LeO.ite ?_ ?_
      | refine LeO.bind ?_ (fun _ => ?_)
theorem cycle_on.mono : ∀ a0 a1 a2 a3 a4 k, LeO (cycle_on.f k a0 a1 a2 a3 a4) (cycle_on.f (k + 1) a0 a1 a2 a3 a4) := by
  intro a0 a1 a2 a3 a4 k
  have ih0 := cycle_on.mono_l k
  unfold cycle_on.f
  repeat' first
      | (with_reducible exact ih0 _ _ _ _ _ _)
      | (with_reducible exact LeO.refl _)
      | (with_reducible exact LeO.none _)
      | (with_reducible refine LeO.ite ?_ ?_)
      | (with_reducible refine LeO.bind ?_ (fun _ => ?_))
      | exact ih0 _ _ _ _ _ _
      | exact LeO.none _
      | refine LeO.ite ?_ ?_
      | refine LeO.bind ?_ (fun _ => ?_)
end Go.Proofs.Ytjjfpkfpmpeikaa.PAll
end

section
/- cycle_core: more rounds tell the same. Written by a program for this claim. -/
namespace Go.Proofs.Ytjjfpkfpmpeikaa.PAll
open Go.RowKit Go.Proofs.YtjjfpkfpmpeikaaW.PrintWords Go.Proofs.YtjjfpkfpmpeikaaW.PrintLast Go.Proofs.YtjjfpkfpmpeikaaW.PrintMore
attribute [local go_sem] max2_int min2_int max_two min_two max_three min_three max_four min_four   -- for this text's walks alone
set_option linter.unusedVariables false
set_option linter.unusedSimpArgs false
theorem cycle_core.mono_l : ∀ k, (∀ y0 y1 y2 y3 y4 y5, LeO (cycle_core.l0 k y0 y1 y2 y3 y4 y5) (cycle_core.l0 (k + 1) y0 y1 y2 y3 y4 y5)) ∧ (∀ y0 y1 y2 y3 y4 y5 y6 y7, LeO (cycle_core.l1 k y0 y1 y2 y3 y4 y5 y6 y7) (cycle_core.l1 (k + 1) y0 y1 y2 y3 y4 y5 y6 y7))
  | 0 => ⟨fun _ _ _ _ _ _ r h => by simp [cycle_core.l0] at h, fun _ _ _ _ _ _ _ _ r h => by simp [cycle_core.l1] at h⟩
  | k + 1 => by
    obtain ⟨ih0, ih1⟩ := cycle_core.mono_l k
    refine ⟨?_, ?_⟩
    · intro y0 y1 y2 y3 y4 y5
      unfold cycle_core.l0
      repeat' first
      | (with_reducible exact ih0 _ _ _ _ _ _)
      | (with_reducible exact ih1 _ _ _ _ _ _ _ _)
      | (with_reducible exact cycle_on.mono _ _ _ _ _ _)
      | (with_reducible exact LeO.refl _)
      | (with_reducible exact LeO.none _)
      | (with_reducible refine LeO.ite ?_ ?_)
      | (with_reducible refine LeO.bind ?_ (fun _ => ?_))
      | exact ih0 _ _ _ _ _ _
      | exact ih1 _ _ _ _ _ _ _ _
      | exact cycle_on.mono _ _ _ _ _ _
      | exact LeO.none _
      | refine LeO.ite ?_ ?_
      | refine LeO.bind ?_ (fun _ => ?_)
    · intro y0 y1 y2 y3 y4 y5 y6 y7
      unfold cycle_core.l1
      repeat' first
      | (with_reducible exact ih0 _ _ _ _ _ _)
      | (with_reducible exact ih1 _ _ _ _ _ _ _ _)
      | (with_reducible exact cycle_on.mono _ _ _ _ _ _)
      | (with_reducible exact LeO.refl _)
      | (with_reducible exact LeO.none _)
      | (with_reducible refine LeO.ite ?_ ?_)
      | (with_reducible refine LeO.bind ?_ (fun _ => ?_))
      | exact ih0 _ _ _ _ _ _
      | exact ih1 _ _ _ _ _ _ _ _
      | exact cycle_on.mono _ _ _ _ _ _
      | exact LeO.none _
      | refine LeO.ite ?_ ?_
      | refine LeO.bind ?_ (fun _ => ?_)
theorem cycle_core.mono : ∀ a0 a1 a2 k, LeO (cycle_core.f k a0 a1 a2) (cycle_core.f (k + 1) a0 a1 a2) := by
  intro a0 a1 a2 k
  obtain ⟨ih0, ih1⟩ := cycle_core.mono_l k
  unfold cycle_core.f
  repeat' first
      | (with_reducible exact ih0 _ _ _ _ _ _)
      | (with_reducible exact ih1 _ _ _ _ _ _ _ _)
      | (with_reducible exact cycle_on.mono _ _ _ _ _ _)
      | (with_reducible exact LeO.refl _)
      | (with_reducible exact LeO.none _)
      | (with_reducible refine LeO.ite ?_ ?_)
      | (with_reducible refine LeO.bind ?_ (fun _ => ?_))
      | exact ih0 _ _ _ _ _ _
      | exact ih1 _ _ _ _ _ _ _ _
      | exact cycle_on.mono _ _ _ _ _ _
      | exact LeO.none _
      | refine LeO.ite ?_ ?_
      | refine LeO.bind ?_ (fun _ => ?_)
end Go.Proofs.Ytjjfpkfpmpeikaa.PAll
end

section
/- slices_Index_bool_bool: more rounds tell the same. Written by a program for this claim. -/
namespace Go.Proofs.Ytjjfpkfpmpeikaa.PAll
open Go.RowKit Go.Proofs.YtjjfpkfpmpeikaaW.PrintWords Go.Proofs.YtjjfpkfpmpeikaaW.PrintLast Go.Proofs.YtjjfpkfpmpeikaaW.PrintMore
attribute [local go_sem] max2_int min2_int max_two min_two max_three min_three max_four min_four   -- for this text's walks alone
set_option linter.unusedVariables false
set_option linter.unusedSimpArgs false
theorem slices_Index_bool_bool.mono_l : ∀ k, (∀ y0 y1 y2 y3, LeO (slices_Index_bool_bool.l0 k y0 y1 y2 y3) (slices_Index_bool_bool.l0 (k + 1) y0 y1 y2 y3))
  | 0 => fun _ _ _ _ r h => by simp [slices_Index_bool_bool.l0] at h
  | k + 1 => by
    have ih0 := slices_Index_bool_bool.mono_l k
    · intro y0 y1 y2 y3
      unfold slices_Index_bool_bool.l0
      repeat' first
      | (with_reducible exact ih0 _ _ _ _)
      | (with_reducible exact LeO.refl _)
      | (with_reducible exact LeO.none _)
      | (with_reducible refine LeO.ite ?_ ?_)
      | (with_reducible refine LeO.bind ?_ (fun _ => ?_))
      | exact ih0 _ _ _ _
      | exact LeO.none _
      | refine LeO.ite ?_ ?_
      | refine LeO.bind ?_ (fun _ => ?_)
theorem slices_Index_bool_bool.mono : ∀ a0 a1 k, LeO (slices_Index_bool_bool.f k a0 a1) (slices_Index_bool_bool.f (k + 1) a0 a1) := by
  intro a0 a1 k
  have ih0 := slices_Index_bool_bool.mono_l k
  unfold slices_Index_bool_bool.f
  repeat' first
      | (with_reducible exact ih0 _ _ _ _)
      | (with_reducible exact LeO.refl _)
      | (with_reducible exact LeO.none _)
      | (with_reducible refine LeO.ite ?_ ?_)
      | (with_reducible refine LeO.bind ?_ (fun _ => ?_))
      | exact ih0 _ _ _ _
      | exact LeO.none _
      | refine LeO.ite ?_ ?_
      | refine LeO.bind ?_ (fun _ => ?_)
end Go.Proofs.Ytjjfpkfpmpeikaa.PAll
end

section
/- slices_Index_int_int: more rounds tell the same. Written by a program for this claim. -/
namespace Go.Proofs.Ytjjfpkfpmpeikaa.PAll
open Go.RowKit Go.Proofs.YtjjfpkfpmpeikaaW.PrintWords Go.Proofs.YtjjfpkfpmpeikaaW.PrintLast Go.Proofs.YtjjfpkfpmpeikaaW.PrintMore
attribute [local go_sem] max2_int min2_int max_two min_two max_three min_three max_four min_four   -- for this text's walks alone
set_option linter.unusedVariables false
set_option linter.unusedSimpArgs false
theorem slices_Index_int_int.mono_l : ∀ k, (∀ y0 y1 y2 y3, LeO (slices_Index_int_int.l0 k y0 y1 y2 y3) (slices_Index_int_int.l0 (k + 1) y0 y1 y2 y3))
  | 0 => fun _ _ _ _ r h => by simp [slices_Index_int_int.l0] at h
  | k + 1 => by
    have ih0 := slices_Index_int_int.mono_l k
    · intro y0 y1 y2 y3
      unfold slices_Index_int_int.l0
      repeat' first
      | (with_reducible exact ih0 _ _ _ _)
      | (with_reducible exact LeO.refl _)
      | (with_reducible exact LeO.none _)
      | (with_reducible refine LeO.ite ?_ ?_)
      | (with_reducible refine LeO.bind ?_ (fun _ => ?_))
      | exact ih0 _ _ _ _
      | exact LeO.none _
      | refine LeO.ite ?_ ?_
      | refine LeO.bind ?_ (fun _ => ?_)
theorem slices_Index_int_int.mono : ∀ a0 a1 k, LeO (slices_Index_int_int.f k a0 a1) (slices_Index_int_int.f (k + 1) a0 a1) := by
  intro a0 a1 k
  have ih0 := slices_Index_int_int.mono_l k
  unfold slices_Index_int_int.f
  repeat' first
      | (with_reducible exact ih0 _ _ _ _)
      | (with_reducible exact LeO.refl _)
      | (with_reducible exact LeO.none _)
      | (with_reducible refine LeO.ite ?_ ?_)
      | (with_reducible refine LeO.bind ?_ (fun _ => ?_))
      | exact ih0 _ _ _ _
      | exact LeO.none _
      | refine LeO.ite ?_ ?_
      | refine LeO.bind ?_ (fun _ => ?_)
end Go.Proofs.Ytjjfpkfpmpeikaa.PAll
end

section
/- cycle_find: more rounds tell the same. Written by a program for this claim. -/
namespace Go.Proofs.Ytjjfpkfpmpeikaa.PAll
open Go.RowKit Go.Proofs.YtjjfpkfpmpeikaaW.PrintWords Go.Proofs.YtjjfpkfpmpeikaaW.PrintLast Go.Proofs.YtjjfpkfpmpeikaaW.PrintMore
attribute [local go_sem] max2_int min2_int max_two min_two max_three min_three max_four min_four   -- for this text's walks alone
set_option linter.unusedVariables false
set_option linter.unusedSimpArgs false
theorem cycle_find.mono_l : ∀ k, (∀ y0 y1 y2 y3 y4 y5, LeO (cycle_find.l0 k y0 y1 y2 y3 y4 y5) (cycle_find.l0 (k + 1) y0 y1 y2 y3 y4 y5))
  | 0 => fun _ _ _ _ _ _ r h => by simp [cycle_find.l0] at h
  | k + 1 => by
    have ih0 := cycle_find.mono_l k
    · intro y0 y1 y2 y3 y4 y5
      unfold cycle_find.l0
      repeat' first
      | (with_reducible exact ih0 _ _ _ _ _ _)
      | (with_reducible exact cycle_core.mono _ _ _ _)
      | (with_reducible exact cycle_on.mono _ _ _ _ _ _)
      | (with_reducible exact slices_Index_bool_bool.mono _ _ _)
      | (with_reducible exact slices_Index_int_int.mono _ _ _)
      | (with_reducible exact LeO.refl _)
      | (with_reducible exact LeO.none _)
      | (with_reducible refine LeO.ite ?_ ?_)
      | (with_reducible refine LeO.bind ?_ (fun _ => ?_))
      | exact ih0 _ _ _ _ _ _
      | exact cycle_core.mono _ _ _ _
      | exact cycle_on.mono _ _ _ _ _ _
      | exact slices_Index_bool_bool.mono _ _ _
      | exact slices_Index_int_int.mono _ _ _
      | exact LeO.none _
      | refine LeO.ite ?_ ?_
      | refine LeO.bind ?_ (fun _ => ?_)
theorem cycle_find.mono : ∀ a0 a1 a2 k, LeO (cycle_find.f k a0 a1 a2) (cycle_find.f (k + 1) a0 a1 a2) := by
  intro a0 a1 a2 k
  have ih0 := cycle_find.mono_l k
  unfold cycle_find.f
  repeat' first
      | (with_reducible exact ih0 _ _ _ _ _ _)
      | (with_reducible exact cycle_core.mono _ _ _ _)
      | (with_reducible exact cycle_on.mono _ _ _ _ _ _)
      | (with_reducible exact slices_Index_bool_bool.mono _ _ _)
      | (with_reducible exact slices_Index_int_int.mono _ _ _)
      | (with_reducible exact LeO.refl _)
      | (with_reducible exact LeO.none _)
      | (with_reducible refine LeO.ite ?_ ?_)
      | (with_reducible refine LeO.bind ?_ (fun _ => ?_))
      | exact ih0 _ _ _ _ _ _
      | exact cycle_core.mono _ _ _ _
      | exact cycle_on.mono _ _ _ _ _ _
      | exact slices_Index_bool_bool.mono _ _ _
      | exact slices_Index_int_int.mono _ _ _
      | exact LeO.none _
      | refine LeO.ite ?_ ?_
      | refine LeO.bind ?_ (fun _ => ?_)
end Go.Proofs.Ytjjfpkfpmpeikaa.PAll
end

section
/- cycle_Find: more rounds tell the same. Written by a program for this claim. -/
namespace Go.Proofs.Ytjjfpkfpmpeikaa.PAll
open Go.RowKit Go.Proofs.YtjjfpkfpmpeikaaW.PrintWords Go.Proofs.YtjjfpkfpmpeikaaW.PrintLast Go.Proofs.YtjjfpkfpmpeikaaW.PrintMore
attribute [local go_sem] max2_int min2_int max_two min_two max_three min_three max_four min_four   -- for this text's walks alone
set_option linter.unusedVariables false
set_option linter.unusedSimpArgs false
theorem cycle_Find.mono : ∀ a0 a1 a2 k, LeO (cycle_Find.f k a0 a1 a2) (cycle_Find.f (k + 1) a0 a1 a2) := by
  intro a0 a1 a2 k
  unfold cycle_Find.f
  repeat' first
      | (with_reducible exact cycle_find.mono _ _ _ _)
      | (with_reducible exact cycle_lies.mono _ _ _ _)
      | (with_reducible exact LeO.refl _)
      | (with_reducible exact LeO.none _)
      | (with_reducible refine LeO.ite ?_ ?_)
      | (with_reducible refine LeO.bind ?_ (fun _ => ?_))
      | exact cycle_find.mono _ _ _ _
      | exact cycle_lies.mono _ _ _ _
      | exact LeO.none _
      | refine LeO.ite ?_ ?_
      | refine LeO.bind ?_ (fun _ => ?_)
end Go.Proofs.Ytjjfpkfpmpeikaa.PAll
end

section
/- rate_Least: more rounds tell the same. Written by a program for this claim. -/
namespace Go.Proofs.Ytjjfpkfpmpeikaa.PAll
open Go.RowKit Go.Proofs.YtjjfpkfpmpeikaaW.PrintWords Go.Proofs.YtjjfpkfpmpeikaaW.PrintLast Go.Proofs.YtjjfpkfpmpeikaaW.PrintMore
attribute [local go_sem] max2_int min2_int max_two min_two max_three min_three max_four min_four   -- for this text's walks alone
set_option linter.unusedVariables false
set_option linter.unusedSimpArgs false
theorem rate_Least.mono_l : ∀ k, (∀ y0 y1 y2 y3, LeO (rate_Least.l0 k y0 y1 y2 y3) (rate_Least.l0 (k + 1) y0 y1 y2 y3))
  | 0 => fun _ _ _ _ r h => by simp [rate_Least.l0] at h
  | k + 1 => by
    have ih0 := rate_Least.mono_l k
    · intro y0 y1 y2 y3
      unfold rate_Least.l0
      repeat' first
      | (with_reducible exact ih0 _ _ _ _)
      | (with_reducible exact LeO.refl _)
      | (with_reducible exact LeO.none _)
      | (with_reducible refine LeO.ite ?_ ?_)
      | (with_reducible refine LeO.bind ?_ (fun _ => ?_))
      | exact ih0 _ _ _ _
      | exact LeO.none _
      | refine LeO.ite ?_ ?_
      | refine LeO.bind ?_ (fun _ => ?_)
theorem rate_Least.mono : ∀ a0 a1 k, LeO (rate_Least.f k a0 a1) (rate_Least.f (k + 1) a0 a1) := by
  intro a0 a1 k
  have ih0 := rate_Least.mono_l k
  unfold rate_Least.f
  repeat' first
      | (with_reducible exact ih0 _ _ _ _)
      | (with_reducible exact LeO.refl _)
      | (with_reducible exact LeO.none _)
      | (with_reducible refine LeO.ite ?_ ?_)
      | (with_reducible refine LeO.bind ?_ (fun _ => ?_))
      | exact ih0 _ _ _ _
      | exact LeO.none _
      | refine LeO.ite ?_ ?_
      | refine LeO.bind ?_ (fun _ => ?_)
end Go.Proofs.Ytjjfpkfpmpeikaa.PAll
end

section
/- cycle_along: more rounds tell the same. Written by a program for this claim. -/
namespace Go.Proofs.Ytjjfpkfpmpeikaa.PAll
open Go.RowKit Go.Proofs.YtjjfpkfpmpeikaaW.PrintWords Go.Proofs.YtjjfpkfpmpeikaaW.PrintLast Go.Proofs.YtjjfpkfpmpeikaaW.PrintMore
attribute [local go_sem] max2_int min2_int max_two min_two max_three min_three max_four min_four   -- for this text's walks alone
set_option linter.unusedVariables false
set_option linter.unusedSimpArgs false
theorem cycle_along.mono_l : ∀ k, (∀ y0 y1 y2 y3 y4, LeO (cycle_along.l0 k y0 y1 y2 y3 y4) (cycle_along.l0 (k + 1) y0 y1 y2 y3 y4))
  | 0 => fun _ _ _ _ _ r h => by simp [cycle_along.l0] at h
  | k + 1 => by
    have ih0 := cycle_along.mono_l k
    · intro y0 y1 y2 y3 y4
      unfold cycle_along.l0
      repeat' first
      | (with_reducible exact ih0 _ _ _ _ _)
      | (with_reducible exact LeO.refl _)
      | (with_reducible exact LeO.none _)
      | (with_reducible refine LeO.ite ?_ ?_)
      | (with_reducible refine LeO.bind ?_ (fun _ => ?_))
      | exact ih0 _ _ _ _ _
      | exact LeO.none _
      | refine LeO.ite ?_ ?_
      | refine LeO.bind ?_ (fun _ => ?_)
theorem cycle_along.mono : ∀ a0 a1 k, LeO (cycle_along.f k a0 a1) (cycle_along.f (k + 1) a0 a1) := by
  intro a0 a1 k
  have ih0 := cycle_along.mono_l k
  unfold cycle_along.f
  repeat' first
      | (with_reducible exact ih0 _ _ _ _ _)
      | (with_reducible exact LeO.refl _)
      | (with_reducible exact LeO.none _)
      | (with_reducible refine LeO.ite ?_ ?_)
      | (with_reducible refine LeO.bind ?_ (fun _ => ?_))
      | exact ih0 _ _ _ _ _
      | exact LeO.none _
      | refine LeO.ite ?_ ?_
      | refine LeO.bind ?_ (fun _ => ?_)
end Go.Proofs.Ytjjfpkfpmpeikaa.PAll
end

section
/- cycle_Cancel: more rounds tell the same. Written by a program for this claim. -/
namespace Go.Proofs.Ytjjfpkfpmpeikaa.PAll
open Go.RowKit Go.Proofs.YtjjfpkfpmpeikaaW.PrintWords Go.Proofs.YtjjfpkfpmpeikaaW.PrintLast Go.Proofs.YtjjfpkfpmpeikaaW.PrintMore
attribute [local go_sem] max2_int min2_int max_two min_two max_three min_three max_four min_four   -- for this text's walks alone
set_option linter.unusedVariables false
set_option linter.unusedSimpArgs false
theorem cycle_Cancel.mono_l : ∀ k, (∀ y0 y1 y2 y3, LeO (cycle_Cancel.l0 k y0 y1 y2 y3) (cycle_Cancel.l0 (k + 1) y0 y1 y2 y3)) ∧ (∀ y0 y1 y2 y3 y4 y5 y6, LeO (cycle_Cancel.l1 k y0 y1 y2 y3 y4 y5 y6) (cycle_Cancel.l1 (k + 1) y0 y1 y2 y3 y4 y5 y6))
  | 0 => ⟨fun _ _ _ _ r h => by simp [cycle_Cancel.l0] at h, fun _ _ _ _ _ _ _ r h => by simp [cycle_Cancel.l1] at h⟩
  | k + 1 => by
    obtain ⟨ih0, ih1⟩ := cycle_Cancel.mono_l k
    refine ⟨?_, ?_⟩
    · intro y0 y1 y2 y3
      unfold cycle_Cancel.l0
      repeat' first
      | (with_reducible exact ih0 _ _ _ _)
      | (with_reducible exact ih1 _ _ _ _ _ _ _)
      | (with_reducible exact cycle_along.mono _ _ _)
      | (with_reducible exact cycle_find.mono _ _ _ _)
      | (with_reducible exact cycle_lies.mono _ _ _ _)
      | (with_reducible exact rate_Least.mono _ _ _)
      | (with_reducible exact LeO.refl _)
      | (with_reducible exact LeO.none _)
      | (with_reducible refine LeO.ite ?_ ?_)
      | (with_reducible refine LeO.bind ?_ (fun _ => ?_))
      | exact ih0 _ _ _ _
      | exact ih1 _ _ _ _ _ _ _
      | exact cycle_along.mono _ _ _
      | exact cycle_find.mono _ _ _ _
      | exact cycle_lies.mono _ _ _ _
      | exact rate_Least.mono _ _ _
      | exact LeO.none _
      | refine LeO.ite ?_ ?_
      | refine LeO.bind ?_ (fun _ => ?_)
    · intro y0 y1 y2 y3 y4 y5 y6
      unfold cycle_Cancel.l1
      repeat' first
      | (with_reducible exact ih0 _ _ _ _)
      | (with_reducible exact ih1 _ _ _ _ _ _ _)
      | (with_reducible exact cycle_along.mono _ _ _)
      | (with_reducible exact cycle_find.mono _ _ _ _)
      | (with_reducible exact cycle_lies.mono _ _ _ _)
      | (with_reducible exact rate_Least.mono _ _ _)
      | (with_reducible exact LeO.refl _)
      | (with_reducible exact LeO.none _)
      | (with_reducible refine LeO.ite ?_ ?_)
      | (with_reducible refine LeO.bind ?_ (fun _ => ?_))
      | exact ih0 _ _ _ _
      | exact ih1 _ _ _ _ _ _ _
      | exact cycle_along.mono _ _ _
      | exact cycle_find.mono _ _ _ _
      | exact cycle_lies.mono _ _ _ _
      | exact rate_Least.mono _ _ _
      | exact LeO.none _
      | refine LeO.ite ?_ ?_
      | refine LeO.bind ?_ (fun _ => ?_)
theorem cycle_Cancel.mono : ∀ a0 a1 a2 k, LeO (cycle_Cancel.f k a0 a1 a2) (cycle_Cancel.f (k + 1) a0 a1 a2) := by
  intro a0 a1 a2 k
  obtain ⟨ih0, ih1⟩ := cycle_Cancel.mono_l k
  unfold cycle_Cancel.f
  repeat' first
      | (with_reducible exact ih0 _ _ _ _)
      | (with_reducible exact ih1 _ _ _ _ _ _ _)
      | (with_reducible exact cycle_along.mono _ _ _)
      | (with_reducible exact cycle_find.mono _ _ _ _)
      | (with_reducible exact cycle_lies.mono _ _ _ _)
      | (with_reducible exact rate_Least.mono _ _ _)
      | (with_reducible exact LeO.refl _)
      | (with_reducible exact LeO.none _)
      | (with_reducible refine LeO.ite ?_ ?_)
      | (with_reducible refine LeO.bind ?_ (fun _ => ?_))
      | exact ih0 _ _ _ _
      | exact ih1 _ _ _ _ _ _ _
      | exact cycle_along.mono _ _ _
      | exact cycle_find.mono _ _ _ _
      | exact cycle_lies.mono _ _ _ _
      | exact rate_Least.mono _ _ _
      | exact LeO.none _
      | refine LeO.ite ?_ ?_
      | refine LeO.bind ?_ (fun _ => ?_)
end Go.Proofs.Ytjjfpkfpmpeikaa.PAll
end

section
/- tollbarref19_SameInts: more rounds tell the same. Written by a program for this claim. -/
namespace Go.Proofs.Ytjjfpkfpmpeikaa.PAll
open Go.RowKit Go.Proofs.YtjjfpkfpmpeikaaW.PrintWords Go.Proofs.YtjjfpkfpmpeikaaW.PrintLast Go.Proofs.YtjjfpkfpmpeikaaW.PrintMore
attribute [local go_sem] max2_int min2_int max_two min_two max_three min_three max_four min_four   -- for this text's walks alone
set_option linter.unusedVariables false
set_option linter.unusedSimpArgs false
theorem tollbarref19_SameInts.mono_l : ∀ k, (∀ y0 y1 y2, LeO (tollbarref19_SameInts.l0 k y0 y1 y2) (tollbarref19_SameInts.l0 (k + 1) y0 y1 y2))
  | 0 => fun _ _ _ r h => by simp [tollbarref19_SameInts.l0] at h
  | k + 1 => by
    have ih0 := tollbarref19_SameInts.mono_l k
    · intro y0 y1 y2
      unfold tollbarref19_SameInts.l0
      repeat' first
      | (with_reducible exact ih0 _ _ _)
      | (with_reducible exact LeO.refl _)
      | (with_reducible exact LeO.none _)
      | (with_reducible refine LeO.ite ?_ ?_)
      | (with_reducible refine LeO.bind ?_ (fun _ => ?_))
      | exact ih0 _ _ _
      | exact LeO.none _
      | refine LeO.ite ?_ ?_
      | refine LeO.bind ?_ (fun _ => ?_)
theorem tollbarref19_SameInts.mono : ∀ a0 a1 k, LeO (tollbarref19_SameInts.f k a0 a1) (tollbarref19_SameInts.f (k + 1) a0 a1) := by
  intro a0 a1 k
  have ih0 := tollbarref19_SameInts.mono_l k
  unfold tollbarref19_SameInts.f
  repeat' first
      | (with_reducible exact ih0 _ _ _)
      | (with_reducible exact LeO.refl _)
      | (with_reducible exact LeO.none _)
      | (with_reducible refine LeO.ite ?_ ?_)
      | (with_reducible refine LeO.bind ?_ (fun _ => ?_))
      | exact ih0 _ _ _
      | exact LeO.none _
      | refine LeO.ite ?_ ?_
      | refine LeO.bind ?_ (fun _ => ?_)
end Go.Proofs.Ytjjfpkfpmpeikaa.PAll
end

section
/- tollbarlaw0_SameInts: more rounds tell the same. Written by a program for this claim. -/
namespace Go.Proofs.Ytjjfpkfpmpeikaa.PAll
open Go.RowKit Go.Proofs.YtjjfpkfpmpeikaaW.PrintWords Go.Proofs.YtjjfpkfpmpeikaaW.PrintLast Go.Proofs.YtjjfpkfpmpeikaaW.PrintMore
attribute [local go_sem] max2_int min2_int max_two min_two max_three min_three max_four min_four   -- for this text's walks alone
set_option linter.unusedVariables false
set_option linter.unusedSimpArgs false
theorem tollbarlaw0_SameInts.mono : ∀ a0 a1 k, LeO (tollbarlaw0_SameInts.f k a0 a1) (tollbarlaw0_SameInts.f (k + 1) a0 a1) := by
  intro a0 a1 k
  unfold tollbarlaw0_SameInts.f
  repeat' first
      | (with_reducible exact tollbarref19_SameInts.mono _ _ _)
      | (with_reducible exact LeO.refl _)
      | (with_reducible exact LeO.none _)
      | (with_reducible refine LeO.ite ?_ ?_)
      | (with_reducible refine LeO.bind ?_ (fun _ => ?_))
      | exact tollbarref19_SameInts.mono _ _ _
      | exact LeO.none _
      | refine LeO.ite ?_ ?_
      | refine LeO.bind ?_ (fun _ => ?_)
end Go.Proofs.Ytjjfpkfpmpeikaa.PAll
end

section
/- tollbarlaw14_awake: more rounds tell the same. Written by a program for this claim. -/
namespace Go.Proofs.Ytjjfpkfpmpeikaa.PAll
open Go.RowKit Go.Proofs.YtjjfpkfpmpeikaaW.PrintWords Go.Proofs.YtjjfpkfpmpeikaaW.PrintLast Go.Proofs.YtjjfpkfpmpeikaaW.PrintMore
attribute [local go_sem] max2_int min2_int max_two min_two max_three min_three max_four min_four   -- for this text's walks alone
set_option linter.unusedVariables false
set_option linter.unusedSimpArgs false
theorem tollbarlaw14_awake.mono : ∀ k, LeO (tollbarlaw14_awake.f k ) (tollbarlaw14_awake.f (k + 1) ) := by
  intro  k
  unfold tollbarlaw14_awake.f
  repeat' first
      | (with_reducible exact cycle_Cancel.mono _ _ _ _)
      | (with_reducible exact cycle_Find.mono _ _ _ _)
      | (with_reducible exact tollbarlaw0_SameInts.mono _ _ _)
      | (with_reducible exact LeO.refl _)
      | (with_reducible exact LeO.none _)
      | (with_reducible refine LeO.ite ?_ ?_)
      | (with_reducible refine LeO.bind ?_ (fun _ => ?_))
      | exact cycle_Cancel.mono _ _ _ _
      | exact cycle_Find.mono _ _ _ _
      | exact tollbarlaw0_SameInts.mono _ _ _
      | exact LeO.none _
      | refine LeO.ite ?_ ?_
      | refine LeO.bind ?_ (fun _ => ?_)
end Go.Proofs.Ytjjfpkfpmpeikaa.PAll
end
