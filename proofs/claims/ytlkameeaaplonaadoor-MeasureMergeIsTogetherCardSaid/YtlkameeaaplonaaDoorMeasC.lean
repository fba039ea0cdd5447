/- The bucket of a value, by measure and by its reference. -/
import Derived.Test.YtlkameeaaplonaaDoorMeasB
namespace Go.Proofs.YtlkameeaaplonaaDoor.QMeasureMergeIsTogether
open Go.RowKit Go.Proofs.YtlkameeaaplonaaDoorW.PrintWords Go.Proofs.YtlkameeaaplonaaDoorW.PrintLast Go.Proofs.YtlkameeaaplonaaDoorW.PrintMore
set_option linter.unusedVariables false
set_option linter.unusedSimpArgs false
theorem lt50 {x : Nat} (h : 2 ^ x < 1125899906842624) : x < 50 := by
  rw [show (1125899906842624 : Nat) = 2 ^ 50 from by decide] at h
  exact (Nat.pow_lt_pow_iff_right (by decide)).1 h
section
variable {b p J : Nat} (P : Par b p J)
include P
theorem pw_split (j : Nat) : p * 2 ^ (j + 1) = 2 ^ (b + j) := by
  rw [P.hp, ← Nat.pow_add]
  congr 1
  have := P.b2
  omega
theorem pw_split2 (j : Nat) : 2 * p * 2 ^ (j + 1) = 2 ^ (b + j + 1) := by
  rw [Nat.mul_assoc, pw_split P, Nat.pow_succ]
  omega
/-- What is known of a value with j + 1 doublings. -/
theorem dbl_facts {v j : Nat} (h1 : p * 2 ^ (j + 1) ≤ v) (h2 : v < 2 * p * 2 ^ (j + 1)) (hv : v < 1125899906842624) : j < 50 ∧ p ≤ v / 2 ^ (j + 1) ∧ v / 2 ^ (j + 1) < 2 * p := by
  have hp0 : 0 < 2 ^ (j + 1) := Nat.pow_pos (by decide)
  refine ⟨?_, (Nat.le_div_iff_mul_le hp0).2 h1, (Nat.div_lt_iff_lt_mul hp0).2 h2⟩
  have h3 := lt50 (x := b + j) (by rw [← pw_split P]; omega)
  omega
theorem bucket_lo (v k : Nat) (hv : v < 2 * p) : measure_bucket.f k (b : Int) (v : Int) = some (v : Int) := by
  unfold measure_bucket.f
  rw [if_pos (by omega), sb P, if_pos (by omega)]
theorem bucket_hi (v j k : Nat) (h1 : p * 2 ^ (j + 1) ≤ v) (h2 : v < 2 * p * 2 ^ (j + 1)) (hv : v < 1125899906842624) :
    measure_bucket.f (k + 1) (b : Int) (v : Int) = some (((j + 1) * p + v / 2 ^ (j + 1) : Nat) : Int) := by
  obtain ⟨hj, hm1, hm2⟩ := dbl_facts P h1 h2 hv
  obtain ⟨L, e, ⟨hl1, hl2⟩, hl3⟩ := Len64_eq v (by omega) k
  have hpos : 2 * p ≤ v := by
    have : p * 2 ≤ p * 2 ^ (j + 1) := Nat.mul_le_mul_left p (by rw [Nat.pow_succ]; have := Nat.pow_pos (n := j) (show 0 < 2 by decide); omega)
    omega
  have hL : L = b + j + 1 := by
    rw [pw_split P] at h1
    rw [pw_split2 P] at h2
    have a1 : b + j < L := (Nat.pow_lt_pow_iff_right (a := 2) (by decide)).1 (Nat.lt_of_le_of_lt h1 hl1)
    rcases hl2 with hl2 | hl2
    · omega
    · have a2 : L - 1 < b + j + 1 := (Nat.pow_lt_pow_iff_right (a := 2) (by decide)).1 (Nat.lt_of_le_of_lt hl2 h2)
      omega
  clear hl1 hl2 hl3
  subst hL
  have hb8 := P.b8
  have hp := P.p128
  have hp2 := P.p2
  have hjp : j * p ≤ 6400 := Nat.le_trans (Nat.mul_le_mul (show j ≤ 50 by omega) hp) (by decide)
  unfold measure_bucket.f
  have elen : bits_Len.f (k + 1) (v : Int) = some ((b + j + 1 : Nat) : Int) := by
    unfold bits_Len.f
    rw [e]
    rfl
  clear e
  rw [if_pos (by omega), sb P, if_neg (by omega), u64w (n := (v : Int)) (by omega) (by omega), elen, Option.bind_some, bm1 P, if_pos (by omega), subN (b + j + 1) b (by omega) (by omega), if_pos (by omega), sub1N _ (by omega) (by omega),
    show b + j + 1 - b - 1 = j from by omega, spm P j (by omega), addN (2 * p) (j * p) (by omega), show b + j + 1 - b = j + 1 from by omega, shrN v (j + 1) (by omega), sp P]
  generalize v / 2 ^ (j + 1) = m at hm1 hm2
  have e1 : (j + 1) * p = j * p + p := Nat.succ_mul j p
  rw [addN _ _ (by omega), subN _ _ (by omega) (by omega), e1]
  congr 2
  omega

end
end Go.Proofs.YtlkameeaaplonaaDoor.QMeasureMergeIsTogether
