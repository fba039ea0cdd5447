/- What Check, total, rank and limits reckon of a tally. -/
import Derived.Test.YtploonojacdflaaMeqE
import Derived.Test.YtploonojacdflaaMeqTally
import Derived.Test.YtploonojacdflaaMeqQD
namespace Go.Proofs.Ytploonojacdflaa.Quant
open Go.RowKit Go.Proofs.Ytploonojacdflaa Go.Proofs.Ytploonojacdflaa.QMeasureQuantileBrackets Go.Proofs.YtploonojacdflaaW.PrintWords Go.Proofs.YtploonojacdflaaW.PrintLast Go.Proofs.YtploonojacdflaaW.PrintMore
set_option linter.unusedVariables false
set_option linter.unusedSimpArgs false
theorem u64m (n : Int) : IntKind.u64.wrap n = n % 18446744073709551616 := rfl
theorem and32 {a : Int} (h0 : 0 ≤ a) (h1 : a < 18446744073709551616) : Go.bits .and .u64 a 4294967295 = a % 4294967296 := by
  obtain ⟨n, rfl⟩ := Int.eq_ofNat_of_zero_le h0
  have h := bits_and_u64_nat n 4294967295 (by omega) (by omega)
  rw [show n &&& 4294967295 = n % 4294967296 from Nat.and_two_pow_sub_one_eq_mod n 32] at h
  exact h.trans (by omega)
theorem pbound {a b : Int} (ha : 0 ≤ a) (ha' : a ≤ 4294967295) (hb : 0 ≤ b) (hb' : b ≤ 4294967295) : 0 ≤ a * b ∧ a * b ≤ 18446744065119617025 :=
  ⟨Int.mul_nonneg ha hb, Int.le_trans (Int.mul_le_mul ha' hb' hb (by omega)) (by decide)⟩
theorem mul64_arith {a b p11 p10 p01 p00 : Int} (hab : a * b = p11 * 18446744073709551616 + (p10 + p01) * 4294967296 + p00)
    (h11 : 0 ≤ p11 ∧ p11 ≤ 18446744065119617025) (h10 : 0 ≤ p10 ∧ p10 ≤ 18446744065119617025) (h01 : 0 ≤ p01 ∧ p01 ≤ 18446744065119617025) (h00 : 0 ≤ p00 ∧ p00 ≤ 18446744065119617025) :
    p11 + (p10 + p00 / 4294967296) / 4294967296 + ((p10 + p00 / 4294967296) % 4294967296 + p01) / 4294967296 = a * b / 18446744073709551616 := by
  omega
theorem Mul64_eq {a b : Int} (ha : 0 ≤ a ∧ a < 18446744073709551616) (hb : 0 ≤ b ∧ b < 18446744073709551616) :
    bits_Mul64.f a b = some (a * b / 18446744073709551616, a * b % 18446744073709551616) := by
  have ea := Int.mul_ediv_add_emod a 4294967296
  have eb := Int.mul_ediv_add_emod b 4294967296
  have a1 : 0 ≤ a / 4294967296 ∧ a / 4294967296 ≤ 4294967295 := by omega
  have a0 : 0 ≤ a % 4294967296 ∧ a % 4294967296 ≤ 4294967295 := by omega
  have b1 : 0 ≤ b / 4294967296 ∧ b / 4294967296 ≤ 4294967295 := by omega
  have b0 : 0 ≤ b % 4294967296 ∧ b % 4294967296 ≤ 4294967295 := by omega
  have h11 := pbound a1.1 a1.2 b1.1 b1.2
  have h10 := pbound a1.1 a1.2 b0.1 b0.2
  have h01 := pbound a0.1 a0.2 b1.1 b1.2
  have h00 := pbound a0.1 a0.2 b0.1 b0.2
  unfold bits_Mul64.f
  rw [and32 ha.1 ha.2, and32 hb.1 hb.2]
  generalize hA1 : a / 4294967296 = A1 at *
  generalize hA0 : a % 4294967296 = A0 at *
  generalize hB1 : b / 4294967296 = B1 at *
  generalize hB0 : b % 4294967296 = B0 at *
  have hab : a * b = A1 * B1 * 18446744073709551616 + (A1 * B0 + A0 * B1) * 4294967296 + A0 * B0 := by
    rw [← ea, ← eb]; grind
  generalize A1 * B1 = p11 at *
  generalize A1 * B0 = p10 at *
  generalize A0 * B1 = p01 at *
  generalize A0 * B0 = p00 at *
  rw [u64w (n := p11) (by omega) (by omega), u64w (n := p10) (by omega) (by omega), u64w (n := p01) (by omega) (by omega), u64w (n := p00) (by omega) (by omega)]
  rw [u64w (n := p10 + p00 / 4294967296) (by omega) (by omega)]
  rw [and32 (a := p10 + p00 / 4294967296) (by omega) (by omega)]
  rw [u64w (n := (p10 + p00 / 4294967296) % 4294967296 + p01) (by omega) (by omega)]
  rw [u64m (a * b)]
  have hm := mul64_arith hab h11 h10 h01 h00
  have hlt : a * b / 18446744073709551616 < 18446744073709551616 := by omega
  rw [u64w (n := p11 + (p10 + p00 / 4294967296) / 4294967296) (by omega) (by omega), hm, u64w (n := a * b / 18446744073709551616) (by omega) hlt]
/-- The rank: the least number that is at least one and at least n · num / den. -/
theorem rank_eq (k : Nat) (n num den : Int) (hn : 1 ≤ n ∧ n ≤ 20000) (h1 : 0 ≤ num) (h2 : num ≤ den) (h3 : 1 ≤ den) (h4 : den ≤ 1000000) :
    ∃ K : Int, measure_rank.f k n num den = some K ∧ 1 ≤ K ∧ K ≤ n ∧ (∀ c : Int, 1 ≤ c → n * num ≤ c * den → K ≤ c) ∧ (∀ c : Int, K ≤ c → n * num ≤ c * den) := by
  have hp : 0 ≤ n * num ∧ n * num ≤ 20000000000 := ⟨Int.mul_nonneg (by omega) h1, Int.le_trans (Int.mul_le_mul hn.2 (show num ≤ 1000000 by omega) h1 (by omega)) (by decide)⟩
  have hq := Int.mul_ediv_add_emod (n * num) den
  have hr0 := Int.emod_nonneg (n * num) (show den ≠ 0 by omega)
  have hr1 := Int.emod_lt_of_pos (n * num) (show 0 < den by omega)
  have hq0 : 0 ≤ n * num / den := Int.ediv_nonneg hp.1 (by omega)
  have hq1 : n * num / den ≤ n * num := Int.ediv_le_self _ hp.1
  have e : measure_rank.f k n num den = some (mx 1 (if n * num % den > 0 then n * num / den + 1 else n * num / den)) := by
    unfold measure_rank.f
    rw [u64w (n := n) (by omega) (by omega), u64w (n := num) (by omega) (by omega), u64w (n := den) (by omega) (by omega), Mul64_eq ⟨by omega, by omega⟩ ⟨by omega, by omega⟩, Option.bind_some]
    rw [show n * num / 18446744073709551616 = 0 from by omega, show n * num % 18446744073709551616 = n * num from by omega]
    unfold bits_Div64.f
    rw [if_neg (show ¬ den = 0 by omega), if_neg (show ¬ den ≤ ((0 : Int), n * num).1 from by show ¬ den ≤ 0; omega), if_pos rfl, Option.bind_some]
    show (if Int.tmod (n * num) den > 0 then _ else _) = _
    rw [Int.tmod_eq_emod_of_nonneg hp.1]
    show (if n * num % den > 0 then some (mx 1 (wrap64 (IntKind.u64.wrap (IntKind.u64.wrap (Int.tdiv (n * num) den) + 1)))) else some (mx 1 (wrap64 (IntKind.u64.wrap (Int.tdiv (n * num) den))))) = _
    rw [Int.tdiv_eq_ediv_of_nonneg hp.1, u64w (n := n * num / den) (by omega) (by omega), u64w (n := n * num / den + 1) (by omega) (by omega), w64 (by omega) (by omega), w64 (by omega) (by omega)]
    split <;> rfl
  refine ⟨_, e, ?_⟩
  have hnn : n * num ≤ n * den := Int.mul_le_mul_of_nonneg_left h2 (by omega)
  generalize hQ : n * num / den = q at *
  generalize hR : n * num % den = r at *
  have hle : ∀ c : Int, n * num ≤ c * den → q ≤ c := fun c hc => by
    have h5 : den * q ≤ den * c := by rw [Int.mul_comm den c]; omega
    exact Int.le_of_mul_le_mul_left h5 (by omega)
  have hlt : 0 < r → ∀ c : Int, n * num ≤ c * den → q + 1 ≤ c := fun hr c hc => by
    have h5 : den * q < den * c := by rw [Int.mul_comm den c]; omega
    have := Int.lt_of_mul_lt_mul_left h5 (by omega)
    omega
  have hge : ∀ c : Int, q ≤ c → den * q ≤ c * den := fun c hc => by
    rw [Int.mul_comm c den]
    exact Int.mul_le_mul_of_nonneg_left hc (by omega)
  unfold mx
  by_cases hr : r > 0
  · rw [if_pos hr]
    have h6 := hlt hr n hnn
    refine ⟨by split <;> omega, by split <;> omega, fun c h1c hc => ?_, fun c hc => ?_⟩
    · have := hlt hr c hc
      split <;> omega
    · have h7 := hge (c - 1) (by split at hc <;> omega)
      rw [Int.sub_mul] at h7
      omega
  · rw [if_neg hr]
    have h6 := hle n hnn
    refine ⟨by split <;> omega, by split <;> omega, fun c h1c hc => ?_, fun c hc => ?_⟩
    · have := hle c hc
      split <;> omega
    · have h7 := hge c (by split at hc <;> omega)
      omega
/-- The total of the counts. -/
theorem total_eq (bits : Int) (l : List S53) (hl : l.length ≤ 20000) (hb : ∀ s ∈ l, 0 ≤ s.f1 ∧ s.f1 ≤ 20000) : measure_total.f (l.length + 1) bits l = some (ahead l) := by
  have key : ∀ (d i : Nat), i + d = l.length → measure_total.l0 (d + 1) (ahead (l.take i)) l (l.length : Int) (i : Int) = some (ahead l) := by
    intro d
    induction d with
    | zero =>
      intro i hi
      rw [measure_total.l0, if_neg (by omega), List.take_of_length_le (by omega)]
    | succ d ih =>
      intro i hi
      have h1 := rd_bound hb i
      have h2 := take_bound hl hb i
      rw [measure_total.l0, if_pos (by omega), if_pos (by omega), if_pos (by omega), w64 (by omega) (by omega), w64 (by omega) (by omega), ← ahead_succ (by omega)]
      exact ih (i + 1) (by omega)
  exact key l.length 0 (by omega)
/-- Rising counts in good buckets: Check finds nothing. -/
theorem check_eq (b : Nat) (h2 : 2 ≤ b) (h8 : b ≤ 8) (l : List S53) (hl : l.length ≤ 20000) (hb : ∀ s ∈ l, 1 ≤ s.f1 ∧ s.f1 ≤ 20000) (hr : (l.map (·.f0)).Pairwise (· < ·))
    (hv : ∀ s ∈ l, ∃ a : Nat, s.f0 = (a : Int) ∧ a ≤ (50 - b) * 2 ^ (b - 1) + (2 * 2 ^ (b - 1) - 1)) : measure_Check.f (2 * l.length + 2) (b : Int) l = some 0 := by
  have P := par_of b h2 h8
  have hb0 : ∀ s ∈ l, 0 ≤ s.f1 ∧ s.f1 ≤ 20000 := fun s hs => ⟨by have := hb s hs; omega, (hb s hs).2⟩
  have hget : ∀ i (h : i < l.length), rd_T53 l (i : Int) = l[i] := fun i h => by simp [rd_T53, List.getD, List.getElem?_eq_getElem h]
  have hmono : ∀ i, i + 1 < l.length → (rd_T53 l (i : Int)).f0 < (rd_T53 l ((i + 1 : Nat) : Int)).f0 := fun i h => by
    rw [hget i (by omega), hget (i + 1) h]
    have := List.pairwise_iff_getElem.1 hr i (i + 1) (by rw [List.length_map]; omega) (by rw [List.length_map]; omega) (by omega)
    simpa using this
  have key : ∀ (d i : Nat), i + d = l.length → measure_Check.l0 (2 * d + 2) (ahead (l.take i)) l (l.length : Int) (i : Int) (b : Int) l = some 0 := by
    intro d
    induction d with
    | zero =>
      intro i hi
      have h2' := take_bound hl hb0 i
      rw [measure_Check.l0, if_neg (by omega), if_neg (by omega)]
    | succ d ih =>
      intro i hi
      have hin : rd_T53 l (i : Int) ∈ l := by rw [hget i (by omega)]; exact List.getElem_mem _
      have h1 := hb _ hin
      have h3 := take_bound hl hb0 i
      obtain ⟨a, ha, hav⟩ := hv _ hin
      have hsucc := ahead_succ (l := l) (k := i) (by omega)
      rw [show 2 * (d + 1) + 2 = 2 * d + 2 + 1 + 1 from by omega, measure_Check.l0, if_pos (by omega), if_pos (by omega), if_pos (by omega), ha, formP P a (2 * d + 2), Option.bind_some, decide_eq_true hav, if_pos rfl]
      have hj : measure_Check.j1 (2 * d + 2 + 1) (ahead (l.take i)) l (l.length : Int) (i : Int) false (b : Int) l (a : Int) (rd_T53 l (i : Int)).f1 = some 0 := by
        rw [measure_Check.j1, if_neg (by decide), if_neg (by omega), if_neg (by omega), w64 (by omega) (by omega), w64 (by omega) (by omega), ← hsucc]
        exact ih (i + 1) (by omega)
      by_cases hi0 : i = 0
      · subst hi0
        rw [if_neg (by decide)]
        exact hj
      · rw [if_pos (by omega), w64 (n := (i : Int) - 1) (by omega) (by omega), if_pos (by omega), if_pos (by omega)]
        have hm := hmono (i - 1) (by omega)
        rw [show i - 1 + 1 = i from by omega, ha, show ((i - 1 : Nat) : Int) = (i : Int) - 1 from by omega] at hm
        rw [decide_eq_false (by omega)]
        exact hj
  unfold measure_Check.f
  rw [mform, decide_eq_true (by omega), Option.bind_some, if_pos rfl]
  exact key l.length 0 (by omega)
theorem check_none : measure_Check.f 1 0 [] = some 9 := by
  unfold measure_Check.f
  rw [mform]
  rfl
end Go.Proofs.Ytploonojacdflaa.Quant
