/- Go's Div64: a double word divided by a word. -/
import Derived.Test.YtjfldeoddjicoaaLNg
namespace Go.Proofs.Ytjfldeoddjicoaa.QLoadCountAddsUp
open Go.RowKit Go.Proofs.YtjfldeoddjicoaaW.PrintWords Go.Proofs.YtjfldeoddjicoaaW.PrintLast Go.Proofs.YtjfldeoddjicoaaW.PrintMore
set_option linter.unusedVariables false
set_option linter.unusedSimpArgs false
theorem div_test {q y1 y0 r U w : Int} (h : q * y1 + r = U) : (q * y0 > 4294967296 * r + w) ↔ (q * (y1 * 4294967296 + y0) > U * 4294967296 + w) := by
  subst h
  have e : q * (y1 * 4294967296 + y0) = q * y1 * 4294967296 + q * y0 := by rw [Int.mul_add, Int.mul_assoc]
  rw [e]
  generalize q * y0 = A; generalize q * y1 = B
  omega
theorem div_ge {q Q y N : Int} (hy : 0 < y) (hQ : Q = N / y) (h : q * y > N) : Q ≤ q - 1 := by
  have : N / y < q := Int.ediv_lt_of_lt_mul hy (by omega)
  omega
theorem div_le {q Q y N : Int} (hy : 0 < y) (hQ : Q = N / y) (h1 : Q ≤ q) (h : q * y ≤ N) : q = Q := by
  have : q ≤ N / y := Int.le_ediv_of_mul_le hy h
  omega
theorem small_mul {q y0 : Int} (h0 : 0 ≤ q) (h1 : q ≤ 4294967296) (h2 : 0 ≤ y0) (h3 : y0 < 4294967296) : 0 ≤ q * y0 ∧ q * y0 ≤ 4294967296 * 4294967295 :=
  ⟨Int.mul_nonneg h0 h2, Int.mul_le_mul h1 (by omega) h2 (by omega)⟩
theorem Div_l0 (y y1 y0 U w N Q s w0 : Int) (r : Int × Int) (hy : y = y1 * 4294967296 + y0) (hN : N = U * 4294967296 + w) (hQ : Q = N / y) (hQ0 : 0 ≤ Q)
    (h1 : 2147483648 ≤ y1 ∧ y1 < 4294967296) (h0 : 0 ≤ y0 ∧ y0 < 4294967296) (hw : 0 ≤ w ∧ w < 4294967296) (hU : U < y)
    (hnext : Ev (fun k => bits_Div64.j2 k y s y1 y0 U w w0 Q) r) :
    ∀ (d : Nat) (q rh : Int), q = Q + d → q ≤ 4294967297 → 0 ≤ rh ∧ rh < 4294967296 → q * y1 + rh = U →
    Ev (fun k => bits_Div64.l0 k y s y1 y0 U w w0 q rh) r := by
  have hypos : 0 < y := by omega
  intro d
  induction d with
  | zero =>
    intro q rh hq hq1 hr hv
    have hq' : q = Q := by omega
    subst hq'
    have hle : q * y ≤ N := by rw [hQ, Int.mul_comm]; exact Int.mul_ediv_self_le (by omega)
    have hlt : q < 4294967296 := by
      rw [hQ]; exact Int.ediv_lt_of_lt_mul hypos (by rw [hN, Int.mul_comm]; omega)
    have ht : ¬ q * y0 > 4294967296 * rh + w := by rw [div_test hv, ← hy, ← hN]; omega
    have hm := small_mul hQ0 (by omega) h0.1 h0.2
    refine Ev.step (f := fun k => bits_Div64.j1 k y s y1 y0 U w w0 q rh false) (fun k => ?_) (Ev.step (fun k => ?_) hnext)
    · simp only [bits_Div64.l0]
      rw [if_neg (by omega), u64w (n := q * y0) (by omega) (by omega), u64w (n := 4294967296 * rh) (by omega) (by omega), u64w (n := 4294967296 * rh + w) (by omega) (by omega), decide_eq_false ht]
    · simp only [bits_Div64.j1]
      rw [if_neg (by decide)]
  | succ d ih =>
    intro q rh hq hq1 hr hv
    have hv2 : (q - 1) * y1 + (rh + y1) = U := by rw [Int.sub_mul, Int.one_mul]; omega
    have hgt : q * y > N := by
      have h := Int.lt_mul_of_ediv_lt hypos (show N / y < q by omega)
      exact h
    have ht : q * y0 > 4294967296 * rh + w := by rw [div_test hv, ← hy, ← hN]; exact hgt
    have e1 : IntKind.u64.wrap (q - 1) = q - 1 := u64w (by omega) (by omega)
    have e2 : IntKind.u64.wrap (rh + y1) = rh + y1 := u64w (by omega) (by omega)
    refine Ev.step (f := fun k => bits_Div64.j1 k y s y1 y0 U w w0 q rh true) (fun k => ?_) ?_
    · simp only [bits_Div64.l0]
      by_cases hb : q ≥ 4294967296
      · rw [if_pos hb]
      · have hm := small_mul (q := q) (by omega) (by omega) h0.1 h0.2
        rw [if_neg hb, u64w (n := q * y0) (by omega) (by omega), u64w (n := 4294967296 * rh) (by omega) (by omega), u64w (n := 4294967296 * rh + w) (by omega) (by omega), decide_eq_true ht]
    · by_cases hb : rh + y1 ≥ 4294967296
      · have hm := small_mul (q := q - 1) (by omega) (by omega) h0.1 h0.2
        have hle : (q - 1) * y ≤ N := by
          have : ¬ (q - 1) * y0 > 4294967296 * (rh + y1) + w := by omega
          rw [div_test hv2, ← hy, ← hN] at this
          omega
        have hqq := div_le hypos hQ (by omega) hle
        refine Ev.step (fun k => ?_) hnext
        simp only [bits_Div64.j1]
        rw [if_pos trivial, e1, e2, if_pos hb, hqq]
      · refine Ev.step (fun k => ?_) (ih (q - 1) (rh + y1) (by omega) (by omega) (by omega) hv2)
        simp only [bits_Div64.j1]
        rw [if_pos trivial, e1, e2, if_neg hb]
end Go.Proofs.Ytjfldeoddjicoaa.QLoadCountAddsUp
