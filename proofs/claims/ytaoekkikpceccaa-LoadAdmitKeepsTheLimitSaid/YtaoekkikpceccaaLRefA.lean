/- The references' numbers: limbs of four decimal digits. Their sums, products and comparisons answer the limbs of the right number. Condition: the limbs are fewer than a million. -/
import Derived.Test.YtaoekkikpceccaaLx21
namespace Go.Proofs.Ytaoekkikpceccaa.QLoadAdmitKeepsTheLimit
open Go.RowKit Go.Proofs.YtaoekkikpceccaaW.PrintWords Go.Proofs.YtaoekkikpceccaaW.PrintLast Go.Proofs.YtaoekkikpceccaaW.PrintMore
set_option linter.unusedVariables false
set_option linter.unusedSimpArgs false
def encD (n : Nat) : List Int := if n = 0 then [] else ((n % 10000 : Nat) : Int) :: encD (n / 10000)
termination_by n
decreasing_by omega
theorem encD_zero : encD 0 = [] := by rw [encD]; rfl
theorem encD_pos {n : Nat} (h : n ≠ 0) : encD n = ((n % 10000 : Nat) : Int) :: encD (n / 10000) := by rw [encD, if_neg h]
def pwD (i : Nat) : Int := 10000 ^ i
theorem pwD_zero : pwD 0 = 1 := rfl
theorem pwD_succ (i : Nat) : pwD (i + 1) = pwD i * 10000 := by unfold pwD; exact Int.pow_succ _ _
theorem pwD_pos (i : Nat) : 0 < pwD i := by
  induction i with
  | zero => rw [pwD_zero]; decide
  | succ i ih => rw [pwD_succ]; omega
theorem pwD_nat (i : Nat) : pwD i = ((10000 ^ i : Nat) : Int) := by unfold pwD; exact (Int.natCast_pow _ _).symm
theorem pwD_add (i j : Nat) : pwD (i + j) = pwD i * pwD j := by
  rw [pwD_nat, pwD_nat, pwD_nat, Nat.pow_add]; exact Int.natCast_mul _ _
attribute [irreducible] pwD
def valD : List Int → Int
  | [] => 0
  | x :: xs => x + 10000 * valD xs
def limD (xs : List Int) : Prop := ∀ x ∈ xs, 0 ≤ x ∧ x < 10000
theorem limD_nil : limD [] := by intro x h; simp at h
theorem limD_cons {x : Int} {xs : List Int} : limD (x :: xs) ↔ (0 ≤ x ∧ x < 10000) ∧ limD xs := by simp [limD]
theorem encD_ind {P : Nat → Prop} (h0 : P 0) (h1 : ∀ n, n ≠ 0 → P (n / 10000) → P n) (n : Nat) : P n := by
  induction n using Nat.strongRecOn with
  | _ n ih =>
    by_cases h : n = 0
    · subst h; exact h0
    · exact h1 n h (ih _ (by omega))
theorem valD_encD (n : Nat) : valD (encD n) = n := by
  refine encD_ind (P := fun n => valD (encD n) = n) (by rw [encD_zero]; rfl) (fun n hn ih => ?_) n
  rw [encD_pos hn, valD, ih]
  omega
theorem limD_encD (n : Nat) : limD (encD n) := by
  refine encD_ind (P := fun n => limD (encD n)) (by rw [encD_zero]; exact limD_nil) (fun n hn ih => ?_) n
  rw [encD_pos hn]
  exact limD_cons.2 ⟨by omega, ih⟩
theorem valD_nonneg : ∀ {xs : List Int}, limD xs → 0 ≤ valD xs
  | [], _ => Int.le_refl _
  | x :: xs, h => by
    have h1 := (limD_cons.1 h).1
    have h2 := valD_nonneg (limD_cons.1 h).2
    rw [valD]; omega
theorem valD_append : ∀ (xs ys : List Int), valD (xs ++ ys) = valD xs + pwD xs.length * valD ys
  | [], ys => by simp [valD, pwD_zero]
  | x :: xs, ys => by
    rw [List.cons_append, valD, valD, valD_append xs ys, List.length_cons, pwD_succ]
    grind
theorem valD_lt : ∀ {xs : List Int}, limD xs → valD xs < pwD xs.length
  | [], _ => by simp [valD, pwD_zero]
  | x :: xs, h => by
    have h1 := (limD_cons.1 h).1
    have h2 := valD_lt (limD_cons.1 h).2
    rw [valD, List.length_cons, pwD_succ]
    omega
theorem encD_valD : ∀ {xs : List Int}, limD xs → (∀ h : xs ≠ [], xs.getLast h ≠ 0) → encD (valD xs).toNat = xs
  | [], _, _ => by simp [valD, encD_zero]
  | [x], h, hn => by
    have h1 := (limD_cons.1 h).1
    have h0 : x ≠ 0 := by simpa using hn (by simp)
    simp only [valD]
    rw [encD_pos (by omega)]
    have e1 : (((x + 10000 * 0).toNat % 10000 : Nat) : Int) = x := by omega
    have e2 : (x + 10000 * 0).toNat / 10000 = 0 := by omega
    rw [e1, e2, encD_zero]
  | x :: y :: xs, h, hn => by
    have h1 := (limD_cons.1 h).1
    have h2 := (limD_cons.1 h).2
    have ih := encD_valD h2 (fun hne => by have := hn (by simp); simpa using this)
    have hv := valD_nonneg h2
    have hp : valD (y :: xs) ≠ 0 := by
      intro e; rw [e] at ih; simp [encD_zero] at ih
    rw [valD]
    rw [encD_pos (by omega)]
    have e1 : (((x + 10000 * valD (y :: xs)).toNat % 10000 : Nat) : Int) = x := by omega
    have e2 : (x + 10000 * valD (y :: xs)).toNat / 10000 = (valD (y :: xs)).toNat := by omega
    rw [e1, e2, ih]
theorem encD_nil_iff {n : Nat} : encD n = [] ↔ n = 0 := by
  constructor
  · intro h; by_cases h0 : n = 0
    · exact h0
    · rw [encD_pos h0] at h; simp at h
  · intro h; rw [h, encD_zero]
theorem encD_len_le : ∀ (L n : Nat), n < 10000 ^ L → (encD n).length ≤ L
  | 0, n, h => by
    have : n = 0 := by simpa using h
    rw [this, encD_zero]; simp
  | L + 1, n, h => by
    by_cases h0 : n = 0
    · rw [h0, encD_zero]; simp
    · rw [encD_pos h0, List.length_cons]
      have := encD_len_le L (n / 10000) (by rw [Nat.pow_succ] at h; exact Nat.div_lt_of_lt_mul (by rw [Nat.mul_comm]; exact h))
      omega
theorem len_encD_lt (n : Nat) : n < 10000 ^ (encD n).length := by
  have h := valD_lt (limD_encD n)
  rw [valD_encD, pwD_nat] at h
  exact Int.ofNat_lt.1 h
theorem encD_len_ge (L n : Nat) (h : L < (encD n).length) : 10000 ^ L ≤ n := by
  by_cases hlt : n < 10000 ^ L
  · have := encD_len_le L n hlt; omega
  · omega
theorem rdD_nat (xs : List Int) (i : Nat) (h : i < xs.length) : rd xs (i : Int) = xs[i] := by simp [rd, List.getD_eq_getElem?_getD, h]
theorem rdD_lim {xs : List Int} (hl : limD xs) (i : Nat) (h : i < xs.length) : 0 ≤ rd xs (i : Int) ∧ rd xs (i : Int) < 10000 := by
  rw [rdD_nat xs i h]; exact hl _ (List.getElem_mem h)
theorem valD_take (xs : List Int) (i : Nat) (h : i < xs.length) : valD (xs.take (i + 1)) = valD (xs.take i) + pwD i * rd xs (i : Int) := by
  rw [List.take_succ_eq_append_getElem h, valD_append, List.length_take, Nat.min_eq_left (by omega), rdD_nat xs i h]
  simp [valD]
theorem limD_set {xs : List Int} (hl : limD xs) (i : Nat) {v : Int} (h0 : 0 ≤ v) (h1 : v < 10000) : limD (xs.set i v) := by
  intro x hx
  rcases List.mem_or_eq_of_mem_set hx with h | h
  · exact hl x h
  · rw [h]; exact ⟨h0, h1⟩
theorem limD_zeros (n : Nat) : limD (List.replicate n 0) := by
  intro x hx; rw [List.eq_of_mem_replicate hx]; decide
theorem limD_take {xs : List Int} (hl : limD xs) (i : Nat) : limD (xs.take i) := fun x hx => hl x (List.mem_of_mem_take hx)
theorem wD {n : Int} (h0 : -9223372036854775808 ≤ n) (h1 : n < 9223372036854775808) : wrap64 n = n := by unfold wrap64; omega
theorem wDs (i : Nat) (h : i < 9000000) : wrap64 ((i : Int) + 1) = ((i + 1 : Nat) : Int) := by rw [wD (by omega) (by omega)]; omega
theorem wDa (i j : Nat) (h : i + j < 9000000) : wrap64 ((i : Int) + (j : Int)) = ((i + j : Nat) : Int) := by rw [wD (by omega) (by omega)]; omega
theorem wDp (i : Nat) (h : i < 9000000) : wrap64 ((i : Int) - 1) = (i : Int) - 1 := wD (by omega) (by omega)
theorem wDq (i : Nat) (h : i < 9000000) : wrap64 (((i + 1 : Nat) : Int) - 1) = (i : Int) := by rw [wD (by omega) (by omega)]; omega
theorem valD_set : ∀ (xs : List Int) (i : Nat) (v : Int), i < xs.length → valD (xs.set i v) = valD xs + pwD i * (v - rd xs (i : Int)) := by
  intro xs
  induction xs with
  | nil => intro i v h; simp at h
  | cons x xs ih =>
    intro i v h
    cases i with
    | zero =>
      have e : rd (x :: xs) ((0 : Nat) : Int) = x := by simp [rd]
      rw [e, List.set_cons_zero, pwD_zero]; simp only [valD]; omega
    | succ i =>
      have e : rd (x :: xs) ((i + 1 : Nat) : Int) = rd xs (i : Int) := by
        simp only [rd, Int.toNat_natCast]; simp
      rw [e, List.set_cons_succ, valD, valD, ih i v (by simpa using h), pwD_succ]
      grind
theorem rdD_set_ne (xs : List Int) (i j : Nat) (v : Int) (h : i ≠ j) (hj : j < xs.length) : rd (xs.set i v) (j : Int) = rd xs (j : Int) := by
  rw [rdD_nat _ j (by simpa using hj), rdD_nat _ j hj, List.getElem_set_ne h]
theorem rdD_set_self (xs : List Int) (i : Nat) (v : Int) (h : i < xs.length) : rd (xs.set i v) (i : Int) = v := by
  rw [rdD_nat _ i (by simpa using h)]; simp
theorem valD_zeros (n : Nat) : valD (List.replicate n 0) = 0 := by
  induction n with
  | zero => rfl
  | succ n ih => rw [List.replicate_succ]; simp only [valD]; omega
theorem rdD_zeros (n j : Nat) : rd (List.replicate n (0 : Int)) (j : Int) = 0 := by
  by_cases h : j < n
  · rw [rdD_nat _ j (by simpa using h)]; simp
  · simp [rd, List.getD_eq_getElem?_getD, h]
theorem OfD_l0 (n : Nat) : n < 9223372036854775808 → ∀ out : List Int, out.length + (encD n).length < 1000000 → Ev (fun k => dynamometerref0_Of.l0 k (n : Int) out) (out ++ encD n) := by
  refine encD_ind (P := fun n => n < 9223372036854775808 → ∀ out : List Int, out.length + (encD n).length < 1000000 → Ev (fun k => dynamometerref0_Of.l0 k (n : Int) out) (out ++ encD n)) (fun _ out _ => ?_) (fun n hn ih hlt out hl => ?_) n
  · rw [encD_zero, List.append_nil]
    refine Ev.step (f := fun _ => some out) (fun k => ?_) (Ev.now _)
    simp only [dynamometerref0_Of.l0]
    rw [if_neg (by omega)]
  · rw [encD_pos hn] at hl ⊢
    rw [List.length_cons] at hl
    have h := ih (by omega) (out ++ [((n % 10000 : Nat) : Int)]) (by rw [List.length_append]; simp only [List.length_cons, List.length_nil]; omega)
    rw [List.append_assoc, List.singleton_append] at h
    have e1 : Int.tdiv (n : Int) 10000 = ((n / 10000 : Nat) : Int) := by rw [Int.tdiv_eq_ediv_of_nonneg (by omega)]; omega
    have e2 : Int.tmod (n : Int) 10000 = ((n % 10000 : Nat) : Int) := by rw [Int.tmod_eq_emod_of_nonneg (by omega)]; omega
    refine Ev.step (fun k => ?_) h
    simp only [dynamometerref0_Of.l0]
    rw [if_pos (by omega), if_pos (by omega), e1, e2, wD (n := ((n / 10000 : Nat) : Int)) (by omega) (by omega)]
theorem OfD_ev (n : Nat) (h : n < 9223372036854775808) : Ev (fun k => dynamometerref0_Of.f k (n : Int)) (encD n) := by
  have := OfD_l0 n h [] (by
    have := encD_len_le 5 n (by omega)
    simp only [List.length_nil]; omega)
  exact Ev.congr (fun k => rfl) this
theorem trimmed_l0 (xs : List Int) (hl : limD xs) (hlen : xs.length < 1000000) : ∀ (i : Nat), i ≤ xs.length → Ev (fun k => dynamometerref0_trimmed.l0 k xs (i : Int)) (encD (valD (xs.take i)).toNat) := by
  intro i
  induction i with
  | zero =>
    intro _
    have e : encD (valD (xs.take 0)).toNat = xs.take 0 := by rw [List.take_zero]; simp [valD, encD_zero]
    rw [e]
    refine Ev.step (f := fun _ => some _) (fun k => ?_) (Ev.now _)
    simp only [dynamometerref0_trimmed.l0]
    rw [if_neg (by omega), if_pos (by omega), if_pos (by omega)]
    rfl
  | succ i ih =>
    intro hi
    have b1 : i < xs.length := by omega
    have c0 : ((i + 1 : Nat) : Int) > 0 := by omega
    have c1 : (0 : Int) ≤ (i : Int) := by omega
    have c2 : (i : Int) < (xs.length : Int) := by omega
    have c3 : (0 : Int) ≤ ((i + 1 : Nat) : Int) := by omega
    have c4 : ((i + 1 : Nat) : Int) ≤ (xs.length : Int) := by omega
    have hw := wDq i (by omega)
    by_cases hz : rd xs (i : Int) = 0
    · have h := ih (by omega)
      have hv := valD_take xs i b1
      rw [hz, Int.mul_zero, Int.add_zero] at hv
      rw [hv]
      refine Ev.step (fun k => ?_) h
      simp only [dynamometerref0_trimmed.l0]
      rw [if_pos c0, hw, if_pos c1, if_pos c2, if_pos hz]
    · have e : encD (valD (xs.take (i + 1))).toNat = xs.take (i + 1) := by
        refine encD_valD (limD_take hl _) (fun hne => ?_)
        rw [List.getLast_eq_getElem, List.getElem_take]
        rw [rdD_nat xs i b1] at hz
        have e2 : (xs.take (i + 1)).length - 1 = i := by rw [List.length_take]; omega
        simp only [e2]
        exact hz
      rw [e]
      refine Ev.step (f := fun _ => some _) (fun k => ?_) (Ev.now _)
      simp only [dynamometerref0_trimmed.l0]
      rw [if_pos c0, hw, if_pos c1, if_pos c2, if_neg hz, if_pos c3, if_pos c4, Int.toNat_natCast]
theorem trimmed_ev (xs : List Int) (hl : limD xs) (hlen : xs.length < 1000000) : Ev (fun k => dynamometerref0_trimmed.f k xs) (encD (valD xs).toNat) := by
  have h := trimmed_l0 xs hl hlen xs.length (Nat.le_refl _)
  rw [List.take_of_length_le (Nat.le_refl _)] at h
  exact Ev.congr (fun k => rfl) h
theorem rd_encD (m : Nat) : ∀ i : Nat, rd (encD m) (i : Int) = ((m / 10000 ^ i % 10000 : Nat) : Int) := by
  refine encD_ind (P := fun m => ∀ i : Nat, rd (encD m) (i : Int) = ((m / 10000 ^ i % 10000 : Nat) : Int)) (fun i => ?_) (fun m hm ih i => ?_) m
  · rw [encD_zero]; simp [rd]
  · rw [encD_pos hm]
    cases i with
    | zero => simp [rd]
    | succ i =>
      have e : rd (((m % 10000 : Nat) : Int) :: encD (m / 10000)) ((i + 1 : Nat) : Int) = rd (encD (m / 10000)) (i : Int) := by
        simp only [rd, Int.toNat_natCast]; simp
      rw [e, ih i, Nat.div_div_eq_div_mul, Nat.pow_succ, Nat.mul_comm]
theorem len_encD_iff (m i : Nat) : i < (encD m).length ↔ m / 10000 ^ i ≠ 0 := by
  have hp : 0 < 10000 ^ i := Nat.pow_pos (by decide)
  constructor
  · intro h
    have h1 := encD_len_ge i m h
    have := Nat.div_pos h1 hp
    omega
  · intro h
    by_cases hc : i < (encD m).length
    · exact hc
    · have h1 := len_encD_lt m
      have h2 : 10000 ^ (encD m).length ≤ 10000 ^ i := Nat.pow_le_pow_right (by decide) (by omega)
      exact absurd (Nat.div_eq_of_lt (show m < 10000 ^ i by omega)) h
theorem div_pow_succ (m i : Nat) : m / 10000 ^ (i + 1) = m / 10000 ^ i / 10000 := by rw [Nat.div_div_eq_div_mul, Nat.pow_succ]
end Go.Proofs.Ytaoekkikpceccaa.QLoadAdmitKeepsTheLimit
