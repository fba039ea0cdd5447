/- The limits of a bucket, by measure and by its reference. -/
import Derived.Test.YtploonojacdflaaMeqC
namespace Go.Proofs.Ytploonojacdflaa.QMeasureQuantileBrackets
open Go.RowKit Go.Proofs.YtploonojacdflaaW.PrintWords Go.Proofs.YtploonojacdflaaW.PrintLast Go.Proofs.YtploonojacdflaaW.PrintMore
set_option linter.unusedVariables false
set_option linter.unusedSimpArgs false
section
variable {b p J : Nat} (P : Par b p J)
include P
theorem pw_le {i : Nat} (h : i ≤ J) : 2 * p * 2 ^ i ≤ 1125899906842624 := by
  rw [← P.pow]
  exact Nat.mul_le_mul_left _ (Nat.pow_le_pow_right (by decide) h)
/-- The limits of a bucket that is one. -/
theorem limits_lo (n : Nat) (hn : n < 2 * p) : measure_limits.f (b : Int) (n : Int) = some ((n : Int), (n : Int)) := by
  unfold measure_limits.f
  rw [if_pos (by omega), sb P, if_pos (by omega)]
theorem limits_hi (j t : Nat) (ht : t < p) (hj : j + 1 ≤ J) :
    measure_limits.f (b : Int) (((j + 1) * p + (p + t) : Nat) : Int) = some ((((p + t) * 2 ^ (j + 1) : Nat) : Int), (((p + t + 1) * 2 ^ (j + 1) - 1 : Nat) : Int)) := by
  have hp := P.p128
  have hp2 := P.p2
  have hJ := P.hJ
  have hb := P.b8
  have hb2 := P.b2
  have h1 := pw_le P hj
  have e0 : (j + 1) * p = j * p + p := Nat.succ_mul j p
  have hjp : j * p ≤ 6400 := Nat.le_trans (Nat.mul_le_mul (show j ≤ 50 by omega) hp) (by decide)
  have ediv : (j * p + t) / 2 ^ (b - 1) = j := by
    rw [← P.hp, Nat.mul_comm j p, Nat.mul_add_div (by omega), Nat.div_eq_of_lt ht]
    omega
  have emod : (j * p + t) % 2 ^ (b - 1) = t := by
    rw [← P.hp, Nat.mul_comm j p, Nat.mul_add_mod, Nat.mod_eq_of_lt ht]
  have ea := andN (j * p + t) (b - 1) (by omega) (by omega)
  rw [emod, ← P.hp] at ea
  rw [e0]
  have hsub : j * p + p + (p + t) - 2 * p = j * p + t := by omega
  unfold measure_limits.f
  rw [if_pos (by omega), sb P, if_neg (by omega), bm1 P, if_pos (by omega), subN (j * p + p + (p + t)) (2 * p) (by omega) (by omega), hsub, shrN _ _ (by omega), ediv, add1N j (by omega), if_pos (by omega), sp P, sub1N p (by omega) (by omega), ea,
    addN t p (by omega), add1N (t + p) (by omega)]
  have hs1 : 0 < 2 ^ (j + 1) := Nat.pow_pos (by decide)
  have e1 : 2 * p * 2 ^ (j + 1) = p * 2 ^ (j + 1) + p * 2 ^ (j + 1) := by rw [Nat.mul_assoc]; omega
  have l1 : (t + p) * 2 ^ (j + 1) ≤ 2 * p * 2 ^ (j + 1) := Nat.mul_le_mul_right _ (by omega)
  have l2 : (t + p + 1) * 2 ^ (j + 1) ≤ 2 * p * 2 ^ (j + 1) := Nat.mul_le_mul_right _ (by omega)
  have l3 : 0 < (t + p + 1) * 2 ^ (j + 1) := Nat.mul_pos (by omega) hs1
  rw [shlN (t + p) (j + 1) (by omega) (by omega), shlN (t + p + 1) (j + 1) (by omega) (by omega), sub1N _ (by omega) (by omega), Nat.add_comm t p]
end
end Go.Proofs.Ytploonojacdflaa.QMeasureQuantileBrackets
