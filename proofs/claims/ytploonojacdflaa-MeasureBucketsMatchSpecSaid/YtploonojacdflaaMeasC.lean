/- The bucket of a value, by measure and by its reference. -/
import Derived.Test.YtploonojacdflaaMeasB
namespace Go.Proofs.Ytploonojacdflaa.QMeasureBucketsMatchSpec
open Go.RowKit Go.Proofs.YtploonojacdflaaW.PrintWords Go.Proofs.YtploonojacdflaaW.PrintLast Go.Proofs.YtploonojacdflaaW.PrintMore
set_option linter.unusedVariables false
set_option linter.unusedSimpArgs false
theorem lt50 {x : Nat} (h : 2 ^ x < 1125899906842624) : x < 50 := by
  rw [show (1125899906842624 : Nat) = 2 ^ 50 from by decide] at h
  exact (Nat.pow_lt_pow_iff_right (by decide)).1 h
section
variable {b p J : Nat} (P : Par b p J)
include P
theorem pw_split (j : Nat) : p * 2 ^ (j + 1) = 2 ^ (b + j) := by
  rw [P.hp, ← Nat.pow_add]
  congr 1
  have := P.b2
  omega
theorem pw_split2 (j : Nat) : 2 * p * 2 ^ (j + 1) = 2 ^ (b + j + 1) := by
  rw [Nat.mul_assoc, pw_split P, Nat.pow_succ]
  omega
/-- What is known of a value with j + 1 doublings. -/
theorem dbl_facts {v j : Nat} (h1 : p * 2 ^ (j + 1) ≤ v) (h2 : v < 2 * p * 2 ^ (j + 1)) (hv : v < 1125899906842624) : j < 50 ∧ p ≤ v / 2 ^ (j + 1) ∧ v / 2 ^ (j + 1) < 2 * p := by
  have hp0 : 0 < 2 ^ (j + 1) := Nat.pow_pos (by decide)
  refine ⟨?_, (Nat.le_div_iff_mul_le hp0).2 h1, (Nat.div_lt_iff_lt_mul hp0).2 h2⟩
  have h3 := lt50 (x := b + j) (by rw [← pw_split P]; omega)
  omega
theorem bucket_lo (v k : Nat) (hv : v < 2 * p) : measure_bucket.f k (b : Int) (v : Int) = some (v : Int) := by
  unfold measure_bucket.f
  rw [if_pos (by omega), sb P, if_pos (by omega)]
theorem bucket_hi (v j k : Nat) (h1 : p * 2 ^ (j + 1) ≤ v) (h2 : v < 2 * p * 2 ^ (j + 1)) (hv : v < 1125899906842624) :
    measure_bucket.f (k + 1) (b : Int) (v : Int) = some (((j + 1) * p + v / 2 ^ (j + 1) : Nat) : Int) := by
  obtain ⟨hj, hm1, hm2⟩ := dbl_facts P h1 h2 hv
  obtain ⟨L, e, ⟨hl1, hl2⟩, hl3⟩ := Len64_eq v (by omega) k
  have hpos : 2 * p ≤ v := by
    have : p * 2 ≤ p * 2 ^ (j + 1) := Nat.mul_le_mul_left p (by rw [Nat.pow_succ]; have := Nat.pow_pos (n := j) (show 0 < 2 by decide); omega)
    omega
  have hL : L = b + j + 1 := by
    rw [pw_split P] at h1
    rw [pw_split2 P] at h2
    have a1 : b + j < L := (Nat.pow_lt_pow_iff_right (a := 2) (by decide)).1 (Nat.lt_of_le_of_lt h1 hl1)
    rcases hl2 with hl2 | hl2
    · omega
    · have a2 : L - 1 < b + j + 1 := (Nat.pow_lt_pow_iff_right (a := 2) (by decide)).1 (Nat.lt_of_le_of_lt hl2 h2)
      omega
  clear hl1 hl2 hl3
  subst hL
  have hb8 := P.b8
  have hp := P.p128
  have hp2 := P.p2
  have hjp : j * p ≤ 6400 := Nat.le_trans (Nat.mul_le_mul (show j ≤ 50 by omega) hp) (by decide)
  unfold measure_bucket.f
  have elen : bits_Len.f (k + 1) (v : Int) = some ((b + j + 1 : Nat) : Int) := by
    unfold bits_Len.f
    rw [e]
    rfl
  clear e
  rw [if_pos (by omega), sb P, if_neg (by omega), u64w (n := (v : Int)) (by omega) (by omega), elen, Option.bind_some, bm1 P, if_pos (by omega), subN (b + j + 1) b (by omega) (by omega), if_pos (by omega), sub1N _ (by omega) (by omega),
    show b + j + 1 - b - 1 = j from by omega, spm P j (by omega), addN (2 * p) (j * p) (by omega), show b + j + 1 - b = j + 1 from by omega, shrN v (j + 1) (by omega), sp P]
  generalize v / 2 ^ (j + 1) = m at hm1 hm2
  have e1 : (j + 1) * p = j * p + p := Nat.succ_mul j p
  rw [addN _ _ (by omega), subN _ _ (by omega) (by omega), e1]
  congr 2
  omega

theorem place_end (k : Nat) (v j s : Nat) (hs : s = 2 ^ (j + 1)) (h1 : p * s ≤ v) (h2 : v < 2 * p * s) (hv : v < 1125899906842624) (hj : j < 50) :
    dynamometerref9_place.l0 (k + 1) (b : Int) (v : Int) (s : Int) ((p * s : Nat) : Int) (((j + 2) * p : Nat) : Int) (p : Int) = some (((j + 1) * p + v / s : Nat) : Int) := by
  have hp := P.p128
  have hp2 := P.p2
  have hs0 : 0 < s := by rw [hs]; exact Nat.pow_pos (by decide)
  have hm2 : v / s < 2 * p := (Nat.div_lt_iff_lt_mul hs0).2 h2
  have hm1 : p ≤ v / s := (Nat.le_div_iff_mul_le hs0).2 h1
  have hjp : (j + 2) * p ≤ 6656 := Nat.le_trans (Nat.mul_le_mul (show j + 2 ≤ 52 by omega) hp) (by decide)
  have ed : (v - p * s) / s = v / s - p := by
    rw [Nat.mul_comm p s, Nat.sub_mul_div]
  have e2 : 2 * p * s = p * s + p * s := by rw [Nat.mul_assoc]; omega
  have e3 : (j + 2) * p = j * p + p + p := by rw [Nat.succ_mul, Nat.succ_mul]
  have e4 : (j + 1) * p = j * p + p := Nat.succ_mul j p
  rw [dynamometerref9_place.l0, mulN p s (by omega), addN (p * s) (p * s) (by omega), if_neg (by omega), if_neg (by omega), subN v (p * s) h1 (by omega)]
  have et : Int.tdiv ((v - p * s : Nat) : Int) (s : Int) = ((v / s - p : Nat) : Int) := by
    rw [← ed]
    rw [Int.tdiv_eq_ediv_of_nonneg (by omega)]
    exact (Int.natCast_ediv _ _).symm
  rw [et]
  generalize v / s = m at hm1 hm2
  rw [w64 (n := ((m - p : Nat) : Int)) (by omega) (by omega), addN _ _ (by omega)]
  congr 2
  omega
theorem place_loop (v j : Nat) (h1 : p * 2 ^ (j + 1) ≤ v) (h2 : v < 2 * p * 2 ^ (j + 1)) (hv : v < 1125899906842624) (hj : j < 50) : ∀ (d i k : Nat), i + d = j →
    dynamometerref9_place.l0 (d + k + 1) (b : Int) (v : Int) ((2 ^ (i + 1) : Nat) : Int) ((p * 2 ^ (i + 1) : Nat) : Int) (((i + 2) * p : Nat) : Int) (p : Int) = some (((j + 1) * p + v / 2 ^ (j + 1) : Nat) : Int)
  | 0, i, k, e => by
    have e' : i = j := by omega
    subst e'
    rw [Nat.zero_add]
    exact place_end P k v i _ rfl h1 h2 hv hj
  | d + 1, i, k, e => by
    have hp := P.p128
    have hp2 := P.p2
    have ih := place_loop v j h1 h2 hv hj d (i + 1) k (by omega)
    have hle : p * 2 ^ (i + 2) ≤ v := Nat.le_trans (Nat.mul_le_mul_left p (Nat.pow_le_pow_right (by decide) (by omega))) h1
    have es : 2 ^ (i + 2) = 2 * 2 ^ (i + 1) := by rw [Nat.pow_succ 2 (i + 1)]; omega
    have es2 : 2 ^ (i + 1 + 1) = 2 * 2 ^ (i + 1) := es
    have hip : (i + 2) * p ≤ 6656 := Nat.le_trans (Nat.mul_le_mul (show i + 2 ≤ 52 by omega) hp) (by decide)
    have e3 : (i + 3) * p = (i + 2) * p + p := Nat.succ_mul _ _
    have e3' : (i + 1 + 2) * p = (i + 2) * p + p := e3
    rw [es2, e3'] at ih
    rw [es] at hle
    generalize hsg : 2 ^ (i + 1) = s at hle ih ⊢
    have hs1 : s ≤ p * s := Nat.le_mul_of_pos_left s (by omega)
    have e2 : p * (2 * s) = p * s + p * s := by rw [Nat.mul_left_comm]; omega
    rw [e2] at hle ih
    rw [show d + 1 + k + 1 = (d + k + 1) + 1 from by omega, dynamometerref9_place.l0, mulN p s (by omega), addN (p * s) (p * s) (by omega), if_pos (by omega), bm1 P, if_pos (by omega), dblN s (by omega), addN _ _ (by omega), sp P]
    exact ih
theorem place_lo (v k : Nat) (hv : v < 2 * p) : dynamometerref9_place.f (k + 1) (b : Int) (v : Int) = some (v : Int) := by
  have hp := P.p128
  unfold dynamometerref9_place.f
  rw [if_pos (by omega), sb P, dynamometerref9_place.l0]
  have e1 : wrap64 (((2 * p : Nat) : Int) * 1) = ((2 * p : Nat) : Int) := by rw [Int.mul_one]; exact w64 (by omega) (by omega)
  have e2 : wrap64 (0 + ((2 * p : Nat) : Int)) = ((2 * p : Nat) : Int) := by rw [Int.zero_add]; exact w64 (by omega) (by omega)
  have e3 : wrap64 ((v : Int) - 0) = (v : Int) := by rw [Int.sub_zero]; exact w64 (by omega) (by omega)
  have e4 : wrap64 (v : Int) = (v : Int) := w64 (by omega) (by omega)
  rw [e1, e2, if_neg (by omega), if_neg (by decide), e3, Int.tdiv_one, e4, Int.zero_add, e4]
theorem place_hi (v j k : Nat) (h1 : p * 2 ^ (j + 1) ≤ v) (h2 : v < 2 * p * 2 ^ (j + 1)) (hv : v < 1125899906842624) :
    dynamometerref9_place.f (j + k + 2) (b : Int) (v : Int) = some (((j + 1) * p + v / 2 ^ (j + 1) : Nat) : Int) := by
  obtain ⟨hj, hm1, hm2⟩ := dbl_facts P h1 h2 hv
  have hp := P.p128
  have hpos : 2 * p ≤ v := by
    have : p * 2 ≤ p * 2 ^ (j + 1) := Nat.mul_le_mul_left p (by rw [Nat.pow_succ]; have := Nat.pow_pos (n := j) (show 0 < 2 by decide); omega)
    omega
  have h := place_loop P v j h1 h2 hv hj j 0 k (by omega)
  unfold dynamometerref9_place.f
  have e1 : wrap64 (((2 * p : Nat) : Int) * 1) = ((2 * p : Nat) : Int) := by rw [Int.mul_one]; exact w64 (by omega) (by omega)
  have e2 : wrap64 (0 + ((2 * p : Nat) : Int)) = ((2 * p : Nat) : Int) := by rw [Int.zero_add]; exact w64 (by omega) (by omega)
  rw [if_pos (by omega), sb P, dynamometerref9_place.l0, e1, e2, if_pos (by omega), bm1 P, if_pos (by omega), sp P]
  have e5 : wrap64 (2 * 1) = ((2 ^ (0 + 1) : Nat) : Int) := (w64 (n := 2 * 1) (by omega) (by omega)).trans (by decide)
  have e6 : ((2 * p : Nat) : Int) = ((p * 2 ^ (0 + 1) : Nat) : Int) := by rw [show p * 2 ^ (0 + 1) = 2 * p from by omega]
  have e7 : ((2 * p : Nat) : Int) = (((0 + 2) * p : Nat) : Int) := by rw [Nat.zero_add]
  rw [e5]
  have h' := h
  rw [← e6, ← e7] at h'
  exact h'
end
end Go.Proofs.Ytploonojacdflaa.QMeasureBucketsMatchSpec
