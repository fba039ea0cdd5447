/- Bucket and Limits return what is specified, and a value is within the limits of its bucket. -/
import Derived.Test.YtploonojacdflaaMeasD
namespace Go.Proofs.Ytploonojacdflaa.QMeasureBucketsMatchSpec
open Go.RowKit Go.Proofs.YtploonojacdflaaW.PrintWords Go.Proofs.YtploonojacdflaaW.PrintLast Go.Proofs.YtploonojacdflaaW.PrintMore
set_option linter.unusedVariables false
set_option linter.unusedSimpArgs false
theorem mform (x : Int) : measure_bitsForm.f x = some (decide (2 ≤ x ∧ x ≤ 8)) := by
  unfold measure_bitsForm.f
  by_cases h : 2 ≤ x
  · rw [if_pos h]; simp [h]
  · rw [if_neg h]; simp [h]
theorem rform (x : Int) : dynamometerref9_fineBits.f x = some (decide (2 ≤ x ∧ x ≤ 8)) := by
  unfold dynamometerref9_fineBits.f
  by_cases h : 2 ≤ x
  · rw [if_pos h]; simp [h]
  · rw [if_neg h]; simp [h]
section
variable {b p J : Nat} (P : Par b p J)
include P
/-- A value below all: no doubling, or so many. -/
theorem value_cases (v : Nat) (hv : v < 1125899906842624) : v < 2 * p ∨ ∃ j, p * 2 ^ (j + 1) ≤ v ∧ v < 2 * p * 2 ^ (j + 1) ∧ j + 1 ≤ J := by
  have hp2 := P.p2
  have h0 : v < 2 * p ∨ 2 * p ≤ v := by omega
  rcases h0 with h0 | h0
  · exact .inl h0
  · refine .inr ?_
    have key : ∀ d : Nat, v < 2 * p * 2 ^ (d + 1) → ∃ j, j ≤ d ∧ p * 2 ^ (j + 1) ≤ v ∧ v < 2 * p * 2 ^ (j + 1) := by
      intro d
      induction d with
      | zero =>
        intro h
        exact ⟨0, Nat.le_refl _, by omega, h⟩
      | succ d ih =>
        intro h
        by_cases h2 : v < 2 * p * 2 ^ (d + 1)
        · obtain ⟨j, h3, h4⟩ := ih h2
          exact ⟨j, by omega, h4⟩
        · refine ⟨d + 1, Nat.le_refl _, ?_, h⟩
          have e : p * 2 ^ (d + 1 + 1) = 2 * p * 2 ^ (d + 1) := by rw [Nat.pow_succ, Nat.mul_comm 2 p, Nat.mul_assoc, Nat.mul_comm (2 ^ (d + 1)) 2]
          omega
    have hJ := P.hJ
    have hb8 := P.b8
    obtain ⟨j, h1, h2, h3⟩ := key (J - 1) (by rw [show J - 1 + 1 = J from by omega, P.pow]; exact hv)
    exact ⟨j, h2, h3, by omega⟩
theorem bucket_top (k : Nat) : measure_bucket.f (k + 1) (b : Int) 1125899906842623 = some ((J * p + (2 * p - 1) : Nat) : Int) := by
  have hJ := P.hJ
  have hb8 := P.b8
  have hp2 := P.p2
  have hpow := P.pow
  have e1 : p * 2 ^ J + p * 2 ^ J = 1125899906842624 := by rw [← hpow, Nat.mul_assoc]; omega
  have hs0 : 0 < 2 ^ J := Nat.pow_pos (by decide)
  have h := bucket_hi P 1125899906842623 (J - 1) k (by rw [show J - 1 + 1 = J from by omega]; omega) (by rw [show J - 1 + 1 = J from by omega, hpow]; decide) (by decide)
  rw [show J - 1 + 1 = J from by omega] at h
  have e2 : 1125899906842623 / 2 ^ J = 2 * p - 1 := by
    have a1 : 2 * p - 1 ≤ 1125899906842623 / 2 ^ J := by
      rw [Nat.le_div_iff_mul_le hs0, Nat.sub_mul, hpow, Nat.one_mul]
      omega
    have a2 : 1125899906842623 / 2 ^ J < 2 * p := by
      rw [Nat.div_lt_iff_lt_mul hs0, hpow]
      decide
    omega
  rw [e2] at h
  exact h
theorem decomp (n : Nat) (hn : 2 * p ≤ n) : ∃ j t, t < p ∧ n = (j + 1) * p + (p + t) := by
  have hp2 := P.p2
  refine ⟨(n - 2 * p) / p, (n - 2 * p) % p, Nat.mod_lt _ (by omega), ?_⟩
  have h := Nat.div_add_mod (n - 2 * p) p
  rw [Nat.succ_mul, Nat.mul_comm ((n - 2 * p) / p) p]
  omega
theorem valid_iff {j t : Nat} (ht : t < p) : (j + 1) * p + (p + t) ≤ J * p + (2 * p - 1) ↔ j + 1 ≤ J := by
  have hp2 := P.p2
  constructor
  · intro h
    by_cases hj : j + 1 ≤ J
    · exact hj
    · have : (J + 1) * p ≤ (j + 1) * p := Nat.mul_le_mul_right p (by omega)
      have e : (J + 1) * p = J * p + p := Nat.succ_mul J p
      omega
  · intro h
    have : (j + 1) * p ≤ J * p := Nat.mul_le_mul_right p h
    omega
omit P in
theorem lo_valid {n : Nat} (hn : n < 2 * p) : n ≤ J * p + (2 * p - 1) := by
  have : 0 ≤ J * p := Nat.zero_le _
  omega
theorem formP (n k : Nat) : measure_bucketForm.f (k + 1) (b : Int) (n : Int) = some (decide (n ≤ J * p + (2 * p - 1))) := by
  unfold measure_bucketForm.f
  rw [if_pos (by omega), bucket_top P, Option.bind_some]
  congr 1
  by_cases h : n ≤ J * p + (2 * p - 1)
  · rw [decide_eq_true h]; exact decide_eq_true (by omega)
  · rw [decide_eq_false h]; exact decide_eq_false (by omega)
/-- The limits of a bucket that there is, by both. -/
theorem limits_both (n : Nat) (hn : n < 9223372036854775808) :
    (∃ x y : Int, measure_Limits.f 101 (b : Int) (n : Int) = some (x, y, 0) ∧ dynamometerref9_Limits.f 101 (b : Int) (n : Int) = some (x, y, 0)) ∨
    (measure_Limits.f 101 (b : Int) (n : Int) = some (0, 0, 9) ∧ dynamometerref9_Limits.f 101 (b : Int) (n : Int) = some (0, 0, 9)) := by
  have hb2 := P.b2
  have hb8 := P.b8
  have hJ := P.hJ
  have hf : decide (2 ≤ (b : Int) ∧ (b : Int) ≤ 8) = true := decide_eq_true (by omega)
  unfold measure_Limits.f dynamometerref9_Limits.f
  rw [mform, rform, hf, Option.bind_some, Option.bind_some, if_pos rfl, if_pos rfl, formP P n 100, Option.bind_some]
  by_cases h0 : n < 2 * p
  · left
    rw [decide_eq_true (lo_valid h0), if_pos rfl, limits_lo P n h0, Option.bind_some, low_lo P n 100 h0, Option.bind_some, decide_eq_false (show ¬ (n : Int) < 0 by omega), dynamometerref9_Limits.j0, if_neg (by decide), low_lo P n 99 h0, Option.bind_some,
      high_lo P n 99 h0 (by omega), Option.bind_some]
    exact ⟨_, _, rfl, rfl⟩
  · obtain ⟨j, t, ht, rfl⟩ := decomp P n (by omega)
    by_cases hj : j + 1 ≤ J
    · left
      rw [decide_eq_true ((valid_iff P ht).2 hj), if_pos rfl, limits_hi P j t ht hj, Option.bind_some, low_hi P j t 100 ht hn (by omega), Option.bind_some, lowv_pos hj,
        decide_eq_false (show ¬ (((p + t) * 2 ^ (j + 1) : Nat) : Int) < 0 by omega), dynamometerref9_Limits.j0, if_neg (by decide), low_hi P j t 99 ht hn (by omega), Option.bind_some, high_hi P j t 99 ht hj (by omega), Option.bind_some, lowv_pos hj]
      exact ⟨_, _, rfl, rfl⟩
    · right
      rw [decide_eq_false (fun h => hj ((valid_iff P ht).1 h)), if_neg (by decide), low_hi P j t 100 ht hn (by omega), Option.bind_some, lowv_neg hj, decide_eq_true (show (-1 : Int) < 0 by decide), dynamometerref9_Limits.j0, if_pos rfl]
      exact ⟨rfl, rfl⟩
/-- The bucket of a value, by both, and its limits. -/
theorem bucket_both (v : Nat) (hv : v < 1125899906842624) :
    ∃ a x y : Int, measure_Bucket.f 101 (b : Int) (v : Int) = some (a, 0) ∧ dynamometerref9_Bucket.f 101 (b : Int) (v : Int) = some (a, 0) ∧ measure_Limits.f 101 (b : Int) a = some (x, y, 0) ∧ x ≤ v ∧ (v : Int) ≤ y := by
  have hb2 := P.b2
  have hb8 := P.b8
  have hp2 := P.p2
  have hp := P.p128
  have hf : decide (2 ≤ (b : Int) ∧ (b : Int) ≤ 8) = true := decide_eq_true (by omega)
  unfold measure_Bucket.f dynamometerref9_Bucket.f measure_Limits.f
  rw [mform, rform, hf, Option.bind_some, Option.bind_some, if_pos rfl, if_pos rfl, if_neg (by omega), if_neg (by omega), if_neg (by omega), if_neg (by omega)]
  rcases value_cases P v hv with h0 | ⟨j, h1, h2, hj⟩
  · refine ⟨(v : Int), (v : Int), (v : Int), ?_, ?_, ?_, Int.le_refl _, Int.le_refl _⟩
    · rw [bucket_lo P v 101 h0]; rfl
    · rw [place_lo P v 100 h0]; rfl
    · rw [Option.bind_some, if_pos rfl, formP P v 100, decide_eq_true (lo_valid h0), Option.bind_some, if_pos rfl, limits_lo P v h0]; rfl
  · obtain ⟨hj50, hm1, hm2⟩ := dbl_facts P h1 h2 hv
    have hs0 : 0 < 2 ^ (j + 1) := Nat.pow_pos (by decide)
    have e0 : p + (v / 2 ^ (j + 1) - p) = v / 2 ^ (j + 1) := by omega
    have ht : v / 2 ^ (j + 1) - p < p := by omega
    have hl := limits_hi P j (v / 2 ^ (j + 1) - p) ht hj
    have hval := (valid_iff P ht).2 hj
    rw [e0] at hl hval
    refine ⟨(((j + 1) * p + v / 2 ^ (j + 1) : Nat) : Int), ((v / 2 ^ (j + 1) * 2 ^ (j + 1) : Nat) : Int), (((v / 2 ^ (j + 1) + 1) * 2 ^ (j + 1) - 1 : Nat) : Int), ?_, ?_, ?_, ?_, ?_⟩
    · rw [bucket_hi P v j 100 h1 h2 hv]; rfl
    · have := place_hi P v j (99 - j) h1 h2 hv
      rw [show j + (99 - j) + 2 = 101 from by omega] at this
      rw [this]; rfl
    · rw [Option.bind_some, if_pos rfl, formP P _ 100, decide_eq_true hval, Option.bind_some, if_pos rfl, hl]; rfl
    · have := Nat.div_mul_le_self v (2 ^ (j + 1))
      omega
    · have h3 := Nat.lt_div_mul_add (a := v) hs0
      have h4 : (v / 2 ^ (j + 1) + 1) * 2 ^ (j + 1) = v / 2 ^ (j + 1) * 2 ^ (j + 1) + 2 ^ (j + 1) := Nat.succ_mul _ _
      omega
end
/-- P1, for all numbers. -/
theorem bucket_law (bits v : Int) : ∃ a e : Int, measure_Bucket.f 101 bits v = some (a, e) ∧ dynamometerref9_Bucket.f 101 bits v = some (a, e) ∧ (e ≠ 0 ∨ ∃ x y : Int, measure_Limits.f 101 bits a = some (x, y, 0) ∧ x ≤ v ∧ v ≤ y) := by
  by_cases h : 2 ≤ bits ∧ bits ≤ 8
  · by_cases hv0 : v < 0
    · refine ⟨0, 9, ?_, ?_, .inl (by decide)⟩
      · unfold measure_Bucket.f
        rw [mform, decide_eq_true h, Option.bind_some, if_pos rfl, if_pos hv0]
      · unfold dynamometerref9_Bucket.f
        rw [rform, decide_eq_true h, Option.bind_some, if_pos rfl, if_pos hv0]
    · by_cases hv1 : v > 1125899906842623
      · refine ⟨0, 9, ?_, ?_, .inl (by decide)⟩
        · unfold measure_Bucket.f
          rw [mform, decide_eq_true h, Option.bind_some, if_pos rfl, if_neg hv0, if_pos hv1]
        · unfold dynamometerref9_Bucket.f
          rw [rform, decide_eq_true h, Option.bind_some, if_pos rfl, if_neg hv0, if_pos hv1]
      · obtain ⟨b, rfl⟩ := Int.eq_ofNat_of_zero_le (show 0 ≤ bits by omega)
        obtain ⟨n, rfl⟩ := Int.eq_ofNat_of_zero_le (show 0 ≤ v by omega)
        obtain ⟨a, x, y, h1, h2, h3, h4, h5⟩ := bucket_both (par_of b (by omega) (by omega)) n (by omega)
        exact ⟨a, 0, h1, h2, .inr ⟨x, y, h3, h4, h5⟩⟩
  · refine ⟨0, 9, ?_, ?_, .inl (by decide)⟩
    · unfold measure_Bucket.f
      rw [mform, decide_eq_false h]
      rfl
    · unfold dynamometerref9_Bucket.f
      rw [rform, decide_eq_false h]
      rfl
/-- P2, for all numbers of the kind. -/
theorem limits_law (bits n : Int) (hn : n ≤ 9223372036854775807) : ∃ x y g : Int, measure_Limits.f 101 bits n = some (x, y, g) ∧ dynamometerref9_Limits.f 101 bits n = some (x, y, g) := by
  by_cases h : 2 ≤ bits ∧ bits ≤ 8
  · by_cases h0 : n < 0
    · refine ⟨0, 0, 9, ?_, ?_⟩
      · unfold measure_Limits.f measure_bucketForm.f
        rw [mform, decide_eq_true h, Option.bind_some, if_pos rfl, if_neg (by omega)]
        rfl
      · unfold dynamometerref9_Limits.f dynamometerref9_low.f
        rw [rform, decide_eq_true h, Option.bind_some, if_pos rfl, if_pos h0]
        rfl
    · obtain ⟨b, rfl⟩ := Int.eq_ofNat_of_zero_le (show 0 ≤ bits by omega)
      obtain ⟨m, rfl⟩ := Int.eq_ofNat_of_zero_le (show 0 ≤ n by omega)
      rcases limits_both (par_of b (by omega) (by omega)) m (by omega) with ⟨x, y, h1, h2⟩ | ⟨h1, h2⟩
      · exact ⟨x, y, 0, h1, h2⟩
      · exact ⟨0, 0, 9, h1, h2⟩
  · refine ⟨0, 0, 9, ?_, ?_⟩
    · unfold measure_Limits.f
      rw [mform, decide_eq_false h]
      rfl
    · unfold dynamometerref9_Limits.f
      rw [rform, decide_eq_false h]
      rfl
end Go.Proofs.Ytploonojacdflaa.QMeasureBucketsMatchSpec
