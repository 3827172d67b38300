/- Texts of this claim, one behind the other: FR. -/
import Derived.Test.YtfdabjanjfehbaaAa7e9b0
section
/- What a row of rows reads as. -/
namespace Go.Proofs.Ytfdabjanjfehbaa.PAll
open Go.RowKit Go.Proofs.YtfdabjanjfehbaaW.PrintWords Go.Proofs.YtfdabjanjfehbaaW.PrintLast Go.Proofs.YtfdabjanjfehbaaW.PrintMore
attribute [local go_sem] max2_int min2_int max_two min_two max_three min_three max_four min_four   -- for this text's walks alone
set_option linter.unusedVariables false
set_option linter.unusedSimpArgs false
def rowAt (xs : List (List Int)) (i : Int) : List Int := xs.getD i.toNat []
theorem at_rows {w : World} {A : Option Addr} {n : Nat} {xs : List (List Int)} (h : Kd.C (Kd.slice 3 (Kd.int .i64)) w A n xs) (i : Int) (h0 : 0 ≤ i) (h1 : i < n) : ∃ (ad : Addr) (A' : Option Addr) (c' : Nat), A = some ad ∧ w.cell? (ad.add i.toNat) = some (.slice A' (rowAt xs i).length c') ∧ (rowAt xs i).length ≤ c' ∧ Kd.C (Kd.int .i64) w A' (rowAt xs i).length (rowAt xs i) := by
  obtain ⟨ad, c, e, _, hK, hc0⟩ := Kd.C_get h [] i h0 h1
  obtain ⟨A', c', rfl, hl, hr⟩ := hK
  have h2 := hc0 0 _ rfl
  have h3 : i.toNat * (Kd.slice 3 (Kd.int .i64)).sz + 0 = i.toNat := by show i.toNat * 1 + 0 = i.toNat; omega
  rw [h3] at h2
  exact ⟨ad, A', c', e, h2, hl, hr⟩
end Go.Proofs.Ytfdabjanjfehbaa.PAll
end
