/- Buckets: what measure and its reference reckon of a value and of a bucket, in closed form. -/
import Derived.Test.YtlkameeaaplonaaDoorMeasLen
namespace Go.Proofs.YtlkameeaaplonaaDoor.QMeasureMergeIsTogether
open Go.RowKit Go.Proofs.YtlkameeaaplonaaDoorW.PrintWords Go.Proofs.YtlkameeaaplonaaDoorW.PrintLast Go.Proofs.YtlkameeaaplonaaDoorW.PrintMore
set_option linter.unusedVariables false
set_option linter.unusedSimpArgs false
theorem shlN (x y : Nat) (hy : y ≤ 64) (h : x * 2 ^ y < 9223372036854775808) : shl .i64 (x : Int) (y : Int) = ((x * 2 ^ y : Nat) : Int) := by
  unfold shl
  have e1 : min (y : Int).toNat IntKind.i64.bits = y := by
    rw [Int.toNat_natCast]
    exact Nat.min_eq_left hy
  have e2 : ((x : Int) * 2 ^ y) = ((x * 2 ^ y : Nat) : Int) := by simp
  rw [e1, e2, i64_w]
  exact w64 (by omega) (by omega)
theorem shrN (x y : Nat) (hy : y ≤ 64) : shr .i64 (x : Int) (y : Int) = ((x / 2 ^ y : Nat) : Int) := by
  unfold shr
  have e1 : min (y : Int).toNat IntKind.i64.bits = y := by
    rw [Int.toNat_natCast]
    exact Nat.min_eq_left hy
  rw [e1]
  simp
theorem andN (n q : Nat) (hq : q ≤ 62) (hn : n < 9223372036854775808) : Go.bits .and .i64 (n : Int) ((2 ^ q - 1 : Nat) : Int) = ((n % 2 ^ q : Nat) : Int) := by
  have hp : 2 ^ q ≤ 2 ^ 62 := Nat.pow_le_pow_right (by decide) hq
  have hp0 : 0 < 2 ^ q := Nat.pow_pos (by decide)
  have h1 : (BitVec.ofInt 64 ((2 ^ q - 1 : Nat) : Int)).toNat = 2 ^ q - 1 := by
    rw [BitVec.ofInt_natCast, BitVec.toNat_ofNat]
    exact Nat.mod_eq_of_lt (by omega)
  have h2 : (BitVec.ofInt 64 (n : Int)).toNat = n := by
    rw [BitVec.ofInt_natCast, BitVec.toNat_ofNat]
    exact Nat.mod_eq_of_lt (by omega)
  have key : (BitVec.ofInt 64 (n : Int) &&& BitVec.ofInt 64 ((2 ^ q - 1 : Nat) : Int)).toNat = n % 2 ^ q := by
    rw [BitVec.toNat_and, h1, h2, Nat.and_two_pow_sub_one_eq_mod]
  show IntKind.i64.wrap ((BitVec.ofInt 64 (n : Int) &&& BitVec.ofInt 64 ((2 ^ q - 1 : Nat) : Int)).toNat : Nat) = _
  have hm : n % 2 ^ q ≤ n := Nat.mod_le _ _
  rw [key, i64_w]
  generalize n % 2 ^ q = r at hm
  exact w64 (by omega) (by omega)

/-- The number of bits b, p = 2^(b - 1), and how many doublings there are. -/
structure Par (b p J : Nat) : Prop where
  b2 : 2 ≤ b
  b8 : b ≤ 8
  hp : p = 2 ^ (b - 1)
  pb : 2 ^ b = 2 * p
  p2 : 2 ≤ p
  p128 : p ≤ 128
  hJ : b + J = 50
  pow : 2 * p * 2 ^ J = 1125899906842624
theorem par_of (b : Nat) (h2 : 2 ≤ b) (h8 : b ≤ 8) : Par b (2 ^ (b - 1)) (50 - b) := by
  have : b = 2 ∨ b = 3 ∨ b = 4 ∨ b = 5 ∨ b = 6 ∨ b = 7 ∨ b = 8 := by omega
  rcases this with rfl | rfl | rfl | rfl | rfl | rfl | rfl <;> exact ⟨by decide, by decide, rfl, by decide, by decide, by decide, by decide, by decide⟩
section
variable {b p J : Nat} (P : Par b p J)
include P
theorem sb : shl .i64 1 (b : Int) = ((2 * p : Nat) : Int) := by
  have := shlN 1 b (by have := P.b8; omega) (by rw [P.pb]; have := P.p128; omega)
  rw [Nat.one_mul, P.pb] at this
  exact this
theorem bm1 : wrap64 ((b : Int) - 1) = ((b - 1 : Nat) : Int) := by
  have := P.b2
  have := P.b8
  rw [w64 (by omega) (by omega)]
  omega
theorem sp : shl .i64 1 ((b - 1 : Nat) : Int) = (p : Int) := by
  have h := shlN 1 (b - 1) (by have := P.b8; omega) (by rw [Nat.one_mul, ← P.hp]; have := P.p128; omega)
  rw [Nat.one_mul, ← P.hp] at h
  exact h
theorem spm (x : Nat) (h : x * p < 9223372036854775808) : shl .i64 (x : Int) ((b - 1 : Nat) : Int) = ((x * p : Nat) : Int) := by
  have h := shlN x (b - 1) (by have := P.b8; omega) (by rw [← P.hp]; exact h)
  rw [← P.hp] at h
  exact h
end
theorem addN (x y : Nat) (h : x + y < 9223372036854775808) : wrap64 ((x : Int) + (y : Int)) = ((x + y : Nat) : Int) := by
  rw [w64 (by omega) (by omega)]
  omega
theorem subN (x y : Nat) (hxy : y ≤ x) (h : x < 9223372036854775808) : wrap64 ((x : Int) - (y : Int)) = ((x - y : Nat) : Int) := by
  rw [w64 (by omega) (by omega)]
  omega
theorem mulN (x y : Nat) (h : x * y < 9223372036854775808) : wrap64 ((x : Int) * (y : Int)) = ((x * y : Nat) : Int) := by
  rw [← Int.natCast_mul]
  exact w64 (by omega) (by omega)
theorem sub1N (x : Nat) (h0 : 1 ≤ x) (h : x < 9223372036854775808) : wrap64 ((x : Int) - 1) = ((x - 1 : Nat) : Int) := subN x 1 h0 h
theorem add1N (x : Nat) (h : x + 1 < 9223372036854775808) : wrap64 ((x : Int) + 1) = ((x + 1 : Nat) : Int) := addN x 1 h
theorem dblN (x : Nat) (h : 2 * x < 9223372036854775808) : wrap64 (2 * (x : Int)) = ((2 * x : Nat) : Int) := mulN 2 x h
end Go.Proofs.YtlkameeaaplonaaDoor.QMeasureMergeIsTogether
