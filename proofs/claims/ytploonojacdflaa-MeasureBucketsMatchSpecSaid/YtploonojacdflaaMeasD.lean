/- The limits of a bucket, by measure and by its reference. -/
import Derived.Test.YtploonojacdflaaMeasC
namespace Go.Proofs.Ytploonojacdflaa.QMeasureBucketsMatchSpec
open Go.RowKit Go.Proofs.YtploonojacdflaaW.PrintWords Go.Proofs.YtploonojacdflaaW.PrintLast Go.Proofs.YtploonojacdflaaW.PrintMore
set_option linter.unusedVariables false
set_option linter.unusedSimpArgs false
section
variable {b p J : Nat} (P : Par b p J)
include P
theorem pw_le {i : Nat} (h : i ≤ J) : 2 * p * 2 ^ i ≤ 1125899906842624 := by
  rw [← P.pow]
  exact Nat.mul_le_mul_left _ (Nat.pow_le_pow_right (by decide) h)
theorem pw_ge {i : Nat} (h : J + 1 ≤ i) : 1125899906842624 ≤ p * 2 ^ i := by
  have h1 : p * 2 ^ (J + 1) ≤ p * 2 ^ i := Nat.mul_le_mul_left _ (Nat.pow_le_pow_right (by decide) h)
  have h2 := P.pow
  have h3 : p * 2 ^ (J + 1) = 2 * p * 2 ^ J := by rw [Nat.pow_succ, Nat.mul_comm 2 p, Nat.mul_assoc, Nat.mul_comm (2 ^ J) 2]
  omega
/-- The least value of a bucket. -/
def lowv (J j m : Nat) : Int := if j + 1 ≤ J then ((m * 2 ^ (j + 1) : Nat) : Int) else -1
omit P in
theorem lowv_pos {J j m : Nat} (h : j + 1 ≤ J) : lowv J j m = ((m * 2 ^ (j + 1) : Nat) : Int) := if_pos h
omit P in
theorem lowv_neg {J j m : Nat} (h : ¬ j + 1 ≤ J) : lowv J j m = -1 := if_neg h
theorem low_end (k j t : Nat) (ht : t < p) (hj : j + 1 ≤ J) :
    dynamometerref9_low.l0 (k + 1) (b : Int) (t : Int) ((2 ^ (j + 1) : Nat) : Int) ((p * 2 ^ (j + 1) : Nat) : Int) (p : Int) = some (((p + t) * 2 ^ (j + 1) : Nat) : Int) := by
  have h1 := pw_le P hj
  have hp2 := P.p2
  generalize hs : 2 ^ (j + 1) = s at h1 ⊢
  have hs1 : 0 < s := by rw [← hs]; exact Nat.pow_pos (by decide)
  have e1 : 2 * p * s = p * s + p * s := by rw [Nat.mul_assoc]; omega
  have e2 : (p + t) * s = p * s + t * s := Nat.add_mul _ _ _
  have e3 : t * s < p * s := Nat.mul_lt_mul_of_pos_right ht hs1
  clear hs
  rw [e2]
  rw [e1] at h1
  rw [dynamometerref9_low.l0, if_neg (by omega), mulN t s (by omega), addN (p * s) (t * s) (by omega), if_neg (by omega)]
theorem low_loop (j t : Nat) (ht : t < p) (hn : j * p + t < 9223372036854775808) : ∀ (k i : Nat), i ≤ j → i + 1 ≤ J → J ≤ i + 1 + k →
    dynamometerref9_low.l0 (k + 1) (b : Int) (((j - i) * p + t : Nat) : Int) ((2 ^ (i + 1) : Nat) : Int) ((p * 2 ^ (i + 1) : Nat) : Int) (p : Int) = some (lowv J j (p + t)) := by
  intro k
  induction k with
  | zero =>
    intro i hij hiJ hk
    by_cases he : i = j
    · subst he
      rw [show (i - i) * p + t = t by simp, lowv_pos hiJ]
      exact low_end P 0 i t ht hiJ
    · have hp2 := P.p2
      have hp := P.p128
      have h1 := pw_le P hiJ
      have h2 := pw_ge P (i := i + 2) (by omega)
      have es : 2 ^ (i + 2) = 2 * 2 ^ (i + 1) := by rw [Nat.pow_succ 2 (i + 1)]; omega
      have h3 : p ≤ (j - i) * p := Nat.le_mul_of_pos_left p (by omega)
      rw [es] at h2
      rw [lowv_neg (by omega), dynamometerref9_low.l0]
      generalize (j - i) * p = q at h3
      generalize 2 ^ (i + 1) = s at h1 h2 ⊢
      have e1 : 2 * p * s = p * s + p * s := by rw [Nat.mul_assoc]; omega
      have e2 : p * (2 * s) = p * s + p * s := by rw [Nat.mul_left_comm]; omega
      rw [e1] at h1
      rw [e2] at h2
      rw [if_pos (by omega), mulN p s (by omega), addN (p * s) (p * s) (by omega), if_pos (by omega)]
  | succ k ih =>
    intro i hij hiJ hk
    by_cases he : i = j
    · subst he
      rw [show (i - i) * p + t = t by simp, lowv_pos hiJ]
      exact low_end P (k + 1) i t ht hiJ
    · have hp2 := P.p2
      have hp := P.p128
      have h1 := pw_le P hiJ
      have es : 2 ^ (i + 2) = 2 * 2 ^ (i + 1) := by rw [Nat.pow_succ 2 (i + 1)]; omega
      have h3 : p ≤ (j - i) * p := Nat.le_mul_of_pos_left p (by omega)
      have h4 : (j - i) * p ≤ j * p := Nat.mul_le_mul_right p (by omega)
      have e3 : (j - i) * p = (j - (i + 1)) * p + p := by
        rw [← Nat.succ_mul]
        congr 1
        omega
      by_cases hJ2 : i + 2 ≤ J
      · have h2 := pw_le P hJ2
        have ih' := ih (i + 1) (by omega) (by omega) (by omega)
        have es' : 2 ^ (i + 1 + 1) = 2 * 2 ^ (i + 1) := es
        rw [es'] at ih'
        rw [es] at h2
        rw [show k + 1 + 1 = (k + 1) + 1 from rfl, dynamometerref9_low.l0]
        generalize 2 ^ (i + 1) = s at h1 h2 ih' ⊢
        have e1 : 2 * p * s = p * s + p * s := by rw [Nat.mul_assoc]; omega
        have e2 : p * (2 * s) = p * s + p * s := by rw [Nat.mul_left_comm]; omega
        have e4 : 2 * p * (2 * s) = (p * s + p * s) + (p * s + p * s) := by rw [Nat.mul_assoc, e2]; omega
        have hs1 : s ≤ p * s := Nat.le_mul_of_pos_left s (by omega)
        have hs0 : 0 < s ∨ s = 0 := by omega
        rw [e2] at ih'
        rw [e1] at h1
        rw [e4] at h2
        rw [e3] at h3 h4 ⊢
        generalize (j - (i + 1)) * p = q at h3 h4 ih' ⊢
        have hlt : p * s + p * s < 1125899906842624 := by
          rcases hs0 with h0 | h0
          · have : 0 < p * s := Nat.mul_pos (by omega) h0
            omega
          · subst h0; omega
        rw [if_pos (by omega), mulN p s (by omega), addN (p * s) (p * s) (by omega), if_neg (by omega), if_pos (by omega), sb P, if_neg (by omega), subN (q + p + t) p (by omega) (by omega), dblN s (by omega),
          show q + p + t - p = q + t from by omega]
        exact ih'
      · have h2 := pw_ge P (i := i + 2) (by omega)
        rw [es] at h2
        rw [lowv_neg (by omega), dynamometerref9_low.l0]
        generalize (j - i) * p = q at h3
        generalize 2 ^ (i + 1) = s at h1 h2 ⊢
        have e1 : 2 * p * s = p * s + p * s := by rw [Nat.mul_assoc]; omega
        have e2 : p * (2 * s) = p * s + p * s := by rw [Nat.mul_left_comm]; omega
        rw [e1] at h1
        rw [e2] at h2
        rw [if_pos (by omega), mulN p s (by omega), addN (p * s) (p * s) (by omega), if_pos (by omega)]
theorem low_lo (n k : Nat) (hn : n < 2 * p) : dynamometerref9_low.f (k + 1) (b : Int) (n : Int) = some (n : Int) := by
  have hp := P.p128
  unfold dynamometerref9_low.f
  have e1 : wrap64 ((n : Int) * 1) = (n : Int) := by rw [Int.mul_one]; exact w64 (by omega) (by omega)
  have e2 : wrap64 (0 + (n : Int)) = (n : Int) := by rw [Int.zero_add]; exact w64 (by omega) (by omega)
  rw [if_neg (by omega), if_pos (by omega), sb P, dynamometerref9_low.l0, if_neg (by omega), e1, e2, if_neg (by omega)]
theorem low_hi (j t k : Nat) (ht : t < p) (hn : (j + 1) * p + (p + t) < 9223372036854775808) (hk : J ≤ k) :
    dynamometerref9_low.f (k + 1) (b : Int) (((j + 1) * p + (p + t) : Nat) : Int) = some (lowv J j (p + t)) := by
  have hp := P.p128
  have hp2 := P.p2
  have hJ := P.hJ
  have hb := P.b8
  have e0 : (j + 1) * p = j * p + p := Nat.succ_mul j p
  rw [e0] at hn ⊢
  have h := low_loop P j t ht (by omega) (k - 1) 0 (Nat.zero_le _) (by omega) (by omega)
  rw [show k - 1 + 1 = k from by omega, Nat.sub_zero] at h
  generalize j * p = q at hn h ⊢
  unfold dynamometerref9_low.f
  have e1 : wrap64 (((2 * p : Nat) : Int) * 1) = ((2 * p : Nat) : Int) := by rw [Int.mul_one]; exact w64 (by omega) (by omega)
  have e2 : wrap64 (0 + ((2 * p : Nat) : Int)) = ((2 * p : Nat) : Int) := by rw [Int.zero_add]; exact w64 (by omega) (by omega)
  have e5 : wrap64 (2 * 1) = ((2 ^ (0 + 1) : Nat) : Int) := (w64 (n := 2 * 1) (by omega) (by omega)).trans (by decide)
  have e6 : ((p * 2 ^ (0 + 1) : Nat) : Int) = ((2 * p : Nat) : Int) := by rw [show p * 2 ^ (0 + 1) = 2 * p from by omega]
  rw [e6] at h
  rw [if_neg (by omega), if_pos (by omega), sb P, dynamometerref9_low.l0, if_pos (by omega), e1, e2, if_neg (by omega), if_pos (by omega), if_pos (sb P).symm, bm1 P, if_pos (by omega), sp P, e5, subN (q + p + (p + t)) (2 * p) (by omega) (by omega),
    show q + p + (p + t) - 2 * p = q + t from by omega]
  exact h
/-- The limits of a bucket that is one. -/
theorem limits_lo (n : Nat) (hn : n < 2 * p) : measure_limits.f (b : Int) (n : Int) = some ((n : Int), (n : Int)) := by
  unfold measure_limits.f
  rw [if_pos (by omega), sb P, if_pos (by omega)]
theorem limits_hi (j t : Nat) (ht : t < p) (hj : j + 1 ≤ J) :
    measure_limits.f (b : Int) (((j + 1) * p + (p + t) : Nat) : Int) = some ((((p + t) * 2 ^ (j + 1) : Nat) : Int), (((p + t + 1) * 2 ^ (j + 1) - 1 : Nat) : Int)) := by
  have hp := P.p128
  have hp2 := P.p2
  have hJ := P.hJ
  have hb := P.b8
  have hb2 := P.b2
  have h1 := pw_le P hj
  have e0 : (j + 1) * p = j * p + p := Nat.succ_mul j p
  have hjp : j * p ≤ 6400 := Nat.le_trans (Nat.mul_le_mul (show j ≤ 50 by omega) hp) (by decide)
  have ediv : (j * p + t) / 2 ^ (b - 1) = j := by
    rw [← P.hp, Nat.mul_comm j p, Nat.mul_add_div (by omega), Nat.div_eq_of_lt ht]
    omega
  have emod : (j * p + t) % 2 ^ (b - 1) = t := by
    rw [← P.hp, Nat.mul_comm j p, Nat.mul_add_mod, Nat.mod_eq_of_lt ht]
  have ea := andN (j * p + t) (b - 1) (by omega) (by omega)
  rw [emod, ← P.hp] at ea
  rw [e0]
  have hsub : j * p + p + (p + t) - 2 * p = j * p + t := by omega
  unfold measure_limits.f
  rw [if_pos (by omega), sb P, if_neg (by omega), bm1 P, if_pos (by omega), subN (j * p + p + (p + t)) (2 * p) (by omega) (by omega), hsub, shrN _ _ (by omega), ediv, add1N j (by omega), if_pos (by omega), sp P, sub1N p (by omega) (by omega), ea,
    addN t p (by omega), add1N (t + p) (by omega)]
  have hs1 : 0 < 2 ^ (j + 1) := Nat.pow_pos (by decide)
  have e1 : 2 * p * 2 ^ (j + 1) = p * 2 ^ (j + 1) + p * 2 ^ (j + 1) := by rw [Nat.mul_assoc]; omega
  have l1 : (t + p) * 2 ^ (j + 1) ≤ 2 * p * 2 ^ (j + 1) := Nat.mul_le_mul_right _ (by omega)
  have l2 : (t + p + 1) * 2 ^ (j + 1) ≤ 2 * p * 2 ^ (j + 1) := Nat.mul_le_mul_right _ (by omega)
  have l3 : 0 < (t + p + 1) * 2 ^ (j + 1) := Nat.mul_pos (by omega) hs1
  rw [shlN (t + p) (j + 1) (by omega) (by omega), shlN (t + p + 1) (j + 1) (by omega) (by omega), sub1N _ (by omega) (by omega), Nat.add_comm t p]
theorem high_lo (n k : Nat) (hn : n < 2 * p) (hk : J ≤ k) : dynamometerref9_high.f (k + 1) (b : Int) (n : Int) = some (n : Int) := by
  have hp := P.p128
  have hp2 := P.p2
  have hJ := P.hJ
  have hb := P.b8
  unfold dynamometerref9_high.f
  rw [add1N n (by omega)]
  by_cases h : n + 1 < 2 * p
  · rw [low_lo P (n + 1) k h, Option.bind_some, if_pos (by omega), sub1N (n + 1) (by omega) (by omega)]
    rfl
  · have hl := low_hi P 0 0 k (by omega) (by omega) hk
    rw [lowv_pos (by omega), show (0 + 1) * p + (p + 0) = n + 1 from by omega, show (p + 0) * 2 ^ (0 + 1) = n + 1 from by omega] at hl
    rw [hl, Option.bind_some, if_pos (by omega), sub1N (n + 1) (by omega) (by omega)]
    rfl
theorem high_hi (j t k : Nat) (ht : t < p) (hj : j + 1 ≤ J) (hk : J ≤ k) :
    dynamometerref9_high.f (k + 1) (b : Int) (((j + 1) * p + (p + t) : Nat) : Int) = some (((p + t + 1) * 2 ^ (j + 1) - 1 : Nat) : Int) := by
  have hp := P.p128
  have hp2 := P.p2
  have hJ := P.hJ
  have hb := P.b8
  have hb2 := P.b2
  have h1 := pw_le P hj
  have hjp : (j + 1) * p ≤ 6656 := Nat.le_trans (Nat.mul_le_mul (show j + 1 ≤ 52 by omega) hp) (by decide)
  have hs1 : 0 < 2 ^ (j + 1) := Nat.pow_pos (by decide)
  have l2 : (p + t + 1) * 2 ^ (j + 1) ≤ 2 * p * 2 ^ (j + 1) := Nat.mul_le_mul_right _ (by omega)
  have l3 : 0 < (p + t + 1) * 2 ^ (j + 1) := Nat.mul_pos (by omega) hs1
  unfold dynamometerref9_high.f
  rw [add1N _ (by omega)]
  by_cases h : t + 1 < p
  · have hl := low_hi P j (t + 1) k h (by omega) hk
    rw [lowv_pos hj, show (j + 1) * p + (p + (t + 1)) = (j + 1) * p + (p + t) + 1 from by omega, show p + (t + 1) = p + t + 1 from by omega] at hl
    rw [hl, Option.bind_some, if_pos (by omega), sub1N _ (by omega) (by omega)]
  · have et : t + 1 = p := by omega
    have e0 : (j + 1 + 1) * p = (j + 1) * p + p := Nat.succ_mul _ p
    have hl := low_hi P (j + 1) 0 k (by omega) (by omega) hk
    rw [show (j + 1 + 1) * p + (p + 0) = (j + 1) * p + (p + t) + 1 from by omega] at hl
    rw [hl, Option.bind_some]
    have e2 : p + t + 1 = 2 * p := by omega
    rw [e2] at l3 ⊢
    by_cases hJ2 : j + 1 + 1 ≤ J
    · have e3 : (p + 0) * 2 ^ (j + 1 + 1) = 2 * p * 2 ^ (j + 1) := by rw [Nat.add_zero, Nat.pow_succ, Nat.mul_comm 2 p, Nat.mul_assoc, Nat.mul_comm (2 ^ (j + 1)) 2]
      rw [lowv_pos hJ2, e3, if_pos (by omega), sub1N _ (by omega) (by omega)]
    · have e3 : j + 1 = J := by omega
      rw [lowv_neg hJ2, if_neg (by decide), e3, P.pow]
      rfl
end
end Go.Proofs.Ytploonojacdflaa.QMeasureBucketsMatchSpec
