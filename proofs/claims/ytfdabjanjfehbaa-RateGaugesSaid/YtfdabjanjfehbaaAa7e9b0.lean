/- Texts of this claim, one behind the other: FH. -/
import Derived.Test.YtfdabjanjfehbaaA2072e9
section
/- What the hand-made walks of the laws on meters and gauges lean on. -/
namespace Go.Proofs.Ytfdabjanjfehbaa.PAll
open Go.RowKit Go.Proofs.YtfdabjanjfehbaaW.PrintWords Go.Proofs.YtfdabjanjfehbaaW.PrintLast Go.Proofs.YtfdabjanjfehbaaW.PrintMore
attribute [local go_sem] max2_int min2_int max_two min_two max_three min_three max_four min_four   -- for this text's walks alone
set_option linter.unusedVariables false
set_option linter.unusedSimpArgs false
theorem hq {P Q : Prop} (h : P) (k : P → Q := by (intro h_; repeat (first | (with_reducible first | exact h_ | apply below_alloc | apply pw_below_drewN | apply below_drew1) | exact h_))) : Q := k h
theorem mq {P Q : Prop} (h : P) (k : P → Q := by (intro h_; repeat (first | (with_reducible first | exact h_ | apply IsS25.alloc | apply IsS25.drewN | apply IsS25.drew) | exact h_))) : Q := k h
theorem gq {P Q : Prop} (h : P) (k : P → Q := by (intro h_; repeat (first | (with_reducible first | exact h_ | apply IsS36.alloc | apply IsS36.drewN | apply IsS36.drew) | exact h_))) : Q := k h
theorem rq {P Q : Prop} (h : P) (k : P → Q := by (intro h_; (with_reducible repeat (first | apply Kd.R_alloc | apply Kd.R_drewN | apply Kd.R_drew)); exact h_)) : Q := k h
theorem cq {P Q : Prop} (h : P) (k : P → Q := by (intro h_; repeat (first | exact h_ | (with_reducible refine Kd.C_alloc ?_ _) | (with_reducible refine Kd.C_drewN ?_ _) | (with_reducible refine Kd.C_drew ?_)))) : Q := k h
theorem meter_keep {w0 W W' : World} {g a : Nat} {s : Int} (hA : IsS25 w0 W a s) (hk : KeepBut W W' g none) (ne : a ≠ g) : IsS25 w0 W' a s := ⟨(hk.2 a hA.lt ne (by simp)).trans hA.1, hA.2⟩
theorem row_far {w : World} {A : Option Addr} {l : List Int} (h : Kd.C (Kd.int .i64) w A l.length l) {g : Nat} (hg : w.heap.size ≤ g) : ∀ ad, A = some ad → 0 < l.length → ad.block ≠ g := by
  intro ad e h0 he
  obtain ⟨ad', e', hx⟩ := Kd.at_int h 0 (by omega) (by omega)
  rw [e] at e'
  injection e' with e'
  subst e'
  have h1 : (ad.add (0 : Int).toNat).block < w.heap.size := World.block_lt_of_cell? w _ hx
  have h2 : (ad.add (0 : Int).toNat).block = ad.block := rfl
  omega
end Go.Proofs.Ytfdabjanjfehbaa.PAll
end
