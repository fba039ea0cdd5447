/- Bucket and Limits return what is specified, and a value is within the limits of its bucket. -/
import Derived.Test.YtlkameeaaplonaaDoorMeasD
namespace Go.Proofs.YtlkameeaaplonaaDoor.QMeasureMergeIsTogether
open Go.RowKit Go.Proofs.YtlkameeaaplonaaDoorW.PrintWords Go.Proofs.YtlkameeaaplonaaDoorW.PrintLast Go.Proofs.YtlkameeaaplonaaDoorW.PrintMore
set_option linter.unusedVariables false
set_option linter.unusedSimpArgs false
theorem mform (x : Int) : measure_bitsForm.f x = some (decide (2 ≤ x ∧ x ≤ 8)) := by
  unfold measure_bitsForm.f
  by_cases h : 2 ≤ x
  · rw [if_pos h]; simp [h]
  · rw [if_neg h]; simp [h]
section
variable {b p J : Nat} (P : Par b p J)
include P
/-- A value below all: no doubling, or so many. -/
theorem value_cases (v : Nat) (hv : v < 1125899906842624) : v < 2 * p ∨ ∃ j, p * 2 ^ (j + 1) ≤ v ∧ v < 2 * p * 2 ^ (j + 1) ∧ j + 1 ≤ J := by
  have hp2 := P.p2
  have h0 : v < 2 * p ∨ 2 * p ≤ v := by omega
  rcases h0 with h0 | h0
  · exact .inl h0
  · refine .inr ?_
    have key : ∀ d : Nat, v < 2 * p * 2 ^ (d + 1) → ∃ j, j ≤ d ∧ p * 2 ^ (j + 1) ≤ v ∧ v < 2 * p * 2 ^ (j + 1) := by
      intro d
      induction d with
      | zero =>
        intro h
        exact ⟨0, Nat.le_refl _, by omega, h⟩
      | succ d ih =>
        intro h
        by_cases h2 : v < 2 * p * 2 ^ (d + 1)
        · obtain ⟨j, h3, h4⟩ := ih h2
          exact ⟨j, by omega, h4⟩
        · refine ⟨d + 1, Nat.le_refl _, ?_, h⟩
          have e : p * 2 ^ (d + 1 + 1) = 2 * p * 2 ^ (d + 1) := by rw [Nat.pow_succ, Nat.mul_comm 2 p, Nat.mul_assoc, Nat.mul_comm (2 ^ (d + 1)) 2]
          omega
    have hJ := P.hJ
    have hb8 := P.b8
    obtain ⟨j, h1, h2, h3⟩ := key (J - 1) (by rw [show J - 1 + 1 = J from by omega, P.pow]; exact hv)
    exact ⟨j, h2, h3, by omega⟩
theorem bucket_top (k : Nat) : measure_bucket.f (k + 1) (b : Int) 1125899906842623 = some ((J * p + (2 * p - 1) : Nat) : Int) := by
  have hJ := P.hJ
  have hb8 := P.b8
  have hp2 := P.p2
  have hpow := P.pow
  have e1 : p * 2 ^ J + p * 2 ^ J = 1125899906842624 := by rw [← hpow, Nat.mul_assoc]; omega
  have hs0 : 0 < 2 ^ J := Nat.pow_pos (by decide)
  have h := bucket_hi P 1125899906842623 (J - 1) k (by rw [show J - 1 + 1 = J from by omega]; omega) (by rw [show J - 1 + 1 = J from by omega, hpow]; decide) (by decide)
  rw [show J - 1 + 1 = J from by omega] at h
  have e2 : 1125899906842623 / 2 ^ J = 2 * p - 1 := by
    have a1 : 2 * p - 1 ≤ 1125899906842623 / 2 ^ J := by
      rw [Nat.le_div_iff_mul_le hs0, Nat.sub_mul, hpow, Nat.one_mul]
      omega
    have a2 : 1125899906842623 / 2 ^ J < 2 * p := by
      rw [Nat.div_lt_iff_lt_mul hs0, hpow]
      decide
    omega
  rw [e2] at h
  exact h
theorem decomp (n : Nat) (hn : 2 * p ≤ n) : ∃ j t, t < p ∧ n = (j + 1) * p + (p + t) := by
  have hp2 := P.p2
  refine ⟨(n - 2 * p) / p, (n - 2 * p) % p, Nat.mod_lt _ (by omega), ?_⟩
  have h := Nat.div_add_mod (n - 2 * p) p
  rw [Nat.succ_mul, Nat.mul_comm ((n - 2 * p) / p) p]
  omega
theorem valid_iff {j t : Nat} (ht : t < p) : (j + 1) * p + (p + t) ≤ J * p + (2 * p - 1) ↔ j + 1 ≤ J := by
  have hp2 := P.p2
  constructor
  · intro h
    by_cases hj : j + 1 ≤ J
    · exact hj
    · have : (J + 1) * p ≤ (j + 1) * p := Nat.mul_le_mul_right p (by omega)
      have e : (J + 1) * p = J * p + p := Nat.succ_mul J p
      omega
  · intro h
    have : (j + 1) * p ≤ J * p := Nat.mul_le_mul_right p h
    omega
omit P in
theorem lo_valid {n : Nat} (hn : n < 2 * p) : n ≤ J * p + (2 * p - 1) := by
  have : 0 ≤ J * p := Nat.zero_le _
  omega
theorem formP (n k : Nat) : measure_bucketForm.f (k + 1) (b : Int) (n : Int) = some (decide (n ≤ J * p + (2 * p - 1))) := by
  unfold measure_bucketForm.f
  rw [if_pos (by omega), bucket_top P, Option.bind_some]
  congr 1
  by_cases h : n ≤ J * p + (2 * p - 1)
  · rw [decide_eq_true h]; exact decide_eq_true (by omega)
  · rw [decide_eq_false h]; exact decide_eq_false (by omega)
end
end Go.Proofs.YtlkameeaaplonaaDoor.QMeasureMergeIsTogether
