/- Go's Len64: the number of bits of a word. -/
import Derived.Test.YtlkameeaaplonaaDoorQMeasureMergeIsTogetherx2
namespace Go.Proofs.YtlkameeaaplonaaDoor.QMeasureMergeIsTogether
open Go.RowKit Go.Proofs.YtlkameeaaplonaaDoorW.PrintWords Go.Proofs.YtlkameeaaplonaaDoorW.PrintLast Go.Proofs.YtlkameeaaplonaaDoorW.PrintMore
set_option linter.unusedVariables false
set_option linter.unusedSimpArgs false
theorem w64 {n : Int} (h0 : -9223372036854775808 ≤ n) (h1 : n < 9223372036854775808) : wrap64 n = n := by unfold wrap64; omega
theorem u64w {n : Int} (h0 : 0 ≤ n) (h1 : n < 18446744073709551616) : IntKind.u64.wrap n = n := by rw [IntKind.wrap_u64]; omega
/-- L is the number of bits of n. -/
def isLen (n L : Nat) : Prop := n < 2 ^ L ∧ (L = 0 ∨ 2 ^ (L - 1) ≤ n)
def tab8 : ByteArray := (⟨#[0, 1, 2, 2, 3, 3, 3, 3, 4, 4, 4, 4, 4, 4, 4, 4, 5, 5, 5, 5, 5, 5, 5, 5, 5, 5, 5, 5, 5, 5, 5, 5, 6, 6, 6, 6, 6, 6, 6, 6, 6, 6, 6, 6, 6, 6, 6, 6, 6, 6, 6, 6, 6, 6, 6, 6, 6, 6, 6, 6, 6, 6, 6, 6, 7, 7, 7, 7, 7, 7, 7, 7, 7, 7, 7, 7, 7, 7, 7, 7, 7, 7, 7, 7, 7, 7, 7, 7, 7, 7, 7, 7, 7, 7, 7, 7, 7, 7, 7, 7, 7, 7, 7, 7, 7, 7, 7, 7, 7, 7, 7, 7, 7, 7, 7, 7, 7, 7, 7, 7, 7, 7, 7, 7, 7, 7, 7, 7, 8, 8, 8, 8, 8, 8, 8, 8, 8, 8, 8, 8, 8, 8, 8, 8, 8, 8, 8, 8, 8, 8, 8, 8, 8, 8, 8, 8, 8, 8, 8, 8, 8, 8, 8, 8, 8, 8, 8, 8, 8, 8, 8, 8, 8, 8, 8, 8, 8, 8, 8, 8, 8, 8, 8, 8, 8, 8, 8, 8, 8, 8, 8, 8, 8, 8, 8, 8, 8, 8, 8, 8, 8, 8, 8, 8, 8, 8, 8, 8, 8, 8, 8, 8, 8, 8, 8, 8, 8, 8, 8, 8, 8, 8, 8, 8, 8, 8, 8, 8, 8, 8, 8, 8, 8, 8, 8, 8, 8, 8, 8, 8, 8, 8, 8, 8, 8, 8, 8, 8, 8, 8, 8, 8, 8, 8, 8, 8]⟩ : ByteArray)
set_option maxRecDepth 100000 in
theorem tab8_all : (List.range 256).all (fun i => let L := bt tab8 (i : Int); decide (0 ≤ L ∧ L ≤ 8 ∧ i < 2 ^ L.toNat ∧ (L = 0 ∨ 2 ^ (L.toNat - 1) ≤ i) ∧ (i ≠ 0 → L ≠ 0))) = true := by decide +kernel
theorem tab8_len (i : Nat) (h : i < 256) : ∃ L : Nat, bt tab8 (i : Int) = (L : Int) ∧ L ≤ 8 ∧ isLen i L ∧ (i ≠ 0 → L ≠ 0) := by
  have h1 := List.all_eq_true.mp tab8_all i (List.mem_range.mpr h)
  have h2 := of_decide_eq_true h1
  obtain ⟨a, b, c, d, e⟩ := h2
  refine ⟨(bt tab8 (i : Int)).toNat, by omega, by omega, ⟨c, ?_⟩, fun h => ?_⟩
  · rcases d with d | d
    · left; omega
    · right; exact d
  · have := e h; omega
theorem isLen_shift (n s L : Nat) (h : isLen (n / 2 ^ s) L) (hL : L ≠ 0) : isLen n (L + s) := by
  obtain ⟨h1, h2⟩ := h
  have hp : 0 < 2 ^ s := Nat.pow_pos (by decide)
  refine ⟨?_, .inr ?_⟩
  · rw [Nat.pow_add]; exact (Nat.div_lt_iff_lt_mul hp).mp h1
  · rcases h2 with h2 | h2
    · exact absurd h2 hL
    · rw [show L + s - 1 = L - 1 + s by omega, Nat.pow_add]
      exact (Nat.le_div_iff_mul_le hp).mp h2
set_option maxRecDepth 100000 in
theorem Len64_j0 (n s : Nat) (hn : n < 4294967296) (hs : s ≤ 32) (k : Nat) : ∃ L : Nat, bits_Len64.j0 (k + 1) (n : Int) (s : Int) = some (((L + s : Nat) : Int)) ∧ isLen n L ∧ (n ≠ 0 → L ≠ 0) ∧ L ≤ 32 := by
  rw [bits_Len64.j0]
  rw [show ((⟨#[0, 1, 2, 2, 3, 3, 3, 3, 4, 4, 4, 4, 4, 4, 4, 4, 5, 5, 5, 5, 5, 5, 5, 5, 5, 5, 5, 5, 5, 5, 5, 5, 6, 6, 6, 6, 6, 6, 6, 6, 6, 6, 6, 6, 6, 6, 6, 6, 6, 6, 6, 6, 6, 6, 6, 6, 6, 6, 6, 6, 6, 6, 6, 6, 7, 7, 7, 7, 7, 7, 7, 7, 7, 7, 7, 7, 7, 7, 7, 7, 7, 7, 7, 7, 7, 7, 7, 7, 7, 7, 7, 7, 7, 7, 7, 7, 7, 7, 7, 7, 7, 7, 7, 7, 7, 7, 7, 7, 7, 7, 7, 7, 7, 7, 7, 7, 7, 7, 7, 7, 7, 7, 7, 7, 7, 7, 7, 7, 8, 8, 8, 8, 8, 8, 8, 8, 8, 8, 8, 8, 8, 8, 8, 8, 8, 8, 8, 8, 8, 8, 8, 8, 8, 8, 8, 8, 8, 8, 8, 8, 8, 8, 8, 8, 8, 8, 8, 8, 8, 8, 8, 8, 8, 8, 8, 8, 8, 8, 8, 8, 8, 8, 8, 8, 8, 8, 8, 8, 8, 8, 8, 8, 8, 8, 8, 8, 8, 8, 8, 8, 8, 8, 8, 8, 8, 8, 8, 8, 8, 8, 8, 8, 8, 8, 8, 8, 8, 8, 8, 8, 8, 8, 8, 8, 8, 8, 8, 8, 8, 8, 8, 8, 8, 8, 8, 8, 8, 8, 8, 8, 8, 8, 8, 8, 8, 8, 8, 8, 8, 8, 8, 8, 8, 8, 8, 8]⟩ : ByteArray) : ByteArray) = tab8 from rfl]
  by_cases h1 : 65536 ≤ n
  · by_cases h2 : 256 ≤ n / 65536
    · obtain ⟨L, e, hL, hl, hz⟩ := tab8_len (n / 16777216) (by omega)
      have hz' := hz (by omega)
      have hl' := isLen_shift n 24 L hl hz'
      refine ⟨L + 24, ?_, hl', fun _ => by omega, by omega⟩
      rw [if_pos (by omega), if_pos (by omega), if_pos (by omega), if_pos (by omega), show (n : Int) / 65536 / 256 % 256 = ((n / 16777216 : Nat) : Int) by omega, e, w64 (n := (L : Int)) (by omega) (by omega), w64 (n := (s : Int) + 16) (by omega) (by omega), w64 (n := (s : Int) + 16 + 8) (by omega) (by omega), w64 (by omega) (by omega)]
      congr 1; omega
    · obtain ⟨L, e, hL, hl, hz⟩ := tab8_len (n / 65536) (by omega)
      have hz' := hz (by omega)
      have hl' := isLen_shift n 16 L hl hz'
      refine ⟨L + 16, ?_, hl', fun _ => by omega, by omega⟩
      rw [if_pos (by omega), if_neg (by omega), if_pos (by omega), if_pos (by omega), show (n : Int) / 65536 % 256 = ((n / 65536 : Nat) : Int) by omega, e, w64 (n := (L : Int)) (by omega) (by omega), w64 (n := (s : Int) + 16) (by omega) (by omega), w64 (by omega) (by omega)]
      congr 1; omega
  · by_cases h2 : 256 ≤ n
    · obtain ⟨L, e, hL, hl, hz⟩ := tab8_len (n / 256) (by omega)
      have hz' := hz (by omega)
      have hl' := isLen_shift n 8 L hl hz'
      refine ⟨L + 8, ?_, hl', fun _ => by omega, by omega⟩
      rw [if_neg (by omega), if_pos (by omega), if_pos (by omega), if_pos (by omega), show (n : Int) / 256 % 256 = ((n / 256 : Nat) : Int) by omega, e, w64 (n := (L : Int)) (by omega) (by omega), w64 (n := (s : Int) + 8) (by omega) (by omega), w64 (by omega) (by omega)]
      congr 1; omega
    · obtain ⟨L, e, hL, hl, hz⟩ := tab8_len n (by omega)
      refine ⟨L, ?_, hl, hz, by omega⟩
      rw [if_neg (by omega), if_neg (by omega), if_pos (by omega), if_pos (by omega), show (n : Int) % 256 = (n : Int) by omega, e, w64 (n := (L : Int)) (by omega) (by omega), w64 (by omega) (by omega)]
      congr 1; omega
theorem Len64_eq (n : Nat) (hn : n < 18446744073709551616) (k : Nat) : ∃ L : Nat, bits_Len64.f (k + 1) (n : Int) = some (L : Int) ∧ isLen n L ∧ L ≤ 64 := by
  unfold bits_Len64.f
  by_cases h : 4294967296 ≤ n
  · obtain ⟨L, e, hl, hz, hb⟩ := Len64_j0 (n / 4294967296) 32 (by omega) (by omega) k
    refine ⟨L + 32, ?_, isLen_shift n 32 L hl (hz (by omega)), by omega⟩
    rw [if_pos (by omega), show (n : Int) / 4294967296 = ((n / 4294967296 : Nat) : Int) by omega]
    exact e
  · obtain ⟨L, e, hl, hz, hb⟩ := Len64_j0 n 0 (by omega) (by omega) k
    refine ⟨L, ?_, hl, by omega⟩
    rw [if_neg (by omega)]
    exact e
end Go.Proofs.YtlkameeaaplonaaDoor.QMeasureMergeIsTogether
