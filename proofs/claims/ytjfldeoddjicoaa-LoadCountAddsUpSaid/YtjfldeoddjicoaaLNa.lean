/- The numbers of any size of package nat: their limbs are the digits of one number to the base 2^64, and the functions that cut, compare, add and subtract them answer the limbs of the right number. Condition of each: the lists are shorter than a million. -/
import Derived.Test.YtjfldeoddjicoaaLx12
import Derived.Test.YtjfldeoddjicoaaLx11
import Derived.Laws.Bits64b
namespace Go.Proofs.Ytjfldeoddjicoaa.QLoadCountAddsUp
open Go.RowKit Go.Proofs.YtjfldeoddjicoaaW.PrintWords Go.Proofs.YtjfldeoddjicoaaW.PrintLast Go.Proofs.YtjfldeoddjicoaaW.PrintMore
def enc (n : Nat) : List Int := if n = 0 then [] else ((n % 18446744073709551616 : Nat) : Int) :: enc (n / 18446744073709551616)
termination_by n
decreasing_by omega
theorem enc_zero : enc 0 = [] := by rw [enc]; rfl
theorem enc_pos {n : Nat} (h : n ≠ 0) : enc n = ((n % 18446744073709551616 : Nat) : Int) :: enc (n / 18446744073709551616) := by rw [enc, if_neg h]
def pw (i : Nat) : Int := 18446744073709551616 ^ i
theorem pw_zero : pw 0 = 1 := rfl
theorem pw_succ (i : Nat) : pw (i + 1) = pw i * 18446744073709551616 := by unfold pw; exact Int.pow_succ _ _
theorem pw_pos (i : Nat) : 0 < pw i := by
  induction i with
  | zero => rw [pw_zero]; decide
  | succ i ih => rw [pw_succ]; omega
theorem pw_nat (i : Nat) : pw i = ((18446744073709551616 ^ i : Nat) : Int) := by unfold pw; exact (Int.natCast_pow _ _).symm
attribute [irreducible] pw
def val : List Int → Int
  | [] => 0
  | x :: xs => x + 18446744073709551616 * val xs
def lim (xs : List Int) : Prop := ∀ x ∈ xs, 0 ≤ x ∧ x < 18446744073709551616
theorem lim_nil : lim [] := by intro x h; simp at h
theorem lim_cons {x : Int} {xs : List Int} : lim (x :: xs) ↔ (0 ≤ x ∧ x < 18446744073709551616) ∧ lim xs := by simp [lim]
theorem lim_append {xs ys : List Int} : lim (xs ++ ys) ↔ lim xs ∧ lim ys := by
  simp only [lim, List.mem_append]
  constructor
  · intro h; exact ⟨fun x hx => h x (.inl hx), fun x hx => h x (.inr hx)⟩
  · rintro ⟨h1, h2⟩ x (hx | hx)
    · exact h1 x hx
    · exact h2 x hx
theorem enc_ind {P : Nat → Prop} (h0 : P 0) (h1 : ∀ n, n ≠ 0 → P (n / 18446744073709551616) → P n) (n : Nat) : P n := by
  induction n using Nat.strongRecOn with
  | _ n ih =>
    by_cases h : n = 0
    · subst h; exact h0
    · exact h1 n h (ih _ (by omega))
theorem val_enc (n : Nat) : val (enc n) = n := by
  refine enc_ind (P := fun n => val (enc n) = n) (by rw [enc_zero]; rfl) (fun n hn ih => ?_) n
  rw [enc_pos hn, val, ih]
  omega
theorem lim_enc (n : Nat) : lim (enc n) := by
  refine enc_ind (P := fun n => lim (enc n)) (by rw [enc_zero]; exact lim_nil) (fun n hn ih => ?_) n
  rw [enc_pos hn]
  exact lim_cons.2 ⟨by omega, ih⟩
theorem val_nonneg : ∀ {xs : List Int}, lim xs → 0 ≤ val xs
  | [], _ => Int.le_refl _
  | x :: xs, h => by
    have h1 := (lim_cons.1 h).1
    have h2 := val_nonneg (lim_cons.1 h).2
    rw [val]; omega
theorem val_append : ∀ (xs ys : List Int), val (xs ++ ys) = val xs + pw xs.length * val ys
  | [], ys => by simp [val, pw_zero]
  | x :: xs, ys => by
    rw [List.cons_append, val, val, val_append xs ys, List.length_cons, pw_succ]
    grind
theorem val_lt : ∀ {xs : List Int}, lim xs → val xs < pw xs.length
  | [], _ => by simp [val, pw_zero]
  | x :: xs, h => by
    have h1 := (lim_cons.1 h).1
    have h2 := val_lt (lim_cons.1 h).2
    rw [val, List.length_cons, pw_succ]
    omega
theorem enc_val : ∀ {xs : List Int}, lim xs → (∀ h : xs ≠ [], xs.getLast h ≠ 0) → enc (val xs).toNat = xs
  | [], _, _ => by simp [val, enc_zero]
  | [x], h, hn => by
    have h1 := (lim_cons.1 h).1
    have h0 : x ≠ 0 := by simpa using hn (by simp)
    simp only [val]
    rw [enc_pos (by omega)]
    have e1 : (((x + 18446744073709551616 * 0).toNat % 18446744073709551616 : Nat) : Int) = x := by omega
    have e2 : (x + 18446744073709551616 * 0).toNat / 18446744073709551616 = 0 := by omega
    rw [e1, e2, enc_zero]
  | x :: y :: xs, h, hn => by
    have h1 := (lim_cons.1 h).1
    have h2 := (lim_cons.1 h).2
    have ih := enc_val h2 (fun hne => by have := hn (by simp); simpa using this)
    have hv := val_nonneg h2
    have hp : val (y :: xs) ≠ 0 := by
      intro e; rw [e] at ih; simp [enc_zero] at ih
    rw [val]
    rw [enc_pos (by omega)]
    have e1 : (((x + 18446744073709551616 * val (y :: xs)).toNat % 18446744073709551616 : Nat) : Int) = x := by omega
    have e2 : (x + 18446744073709551616 * val (y :: xs)).toNat / 18446744073709551616 = (val (y :: xs)).toNat := by omega
    rw [e1, e2, ih]
theorem enc_last (n : Nat) : ∀ h : enc n ≠ [], (enc n).getLast h ≠ 0 := by
  refine enc_ind (P := fun n => ∀ h : enc n ≠ [], (enc n).getLast h ≠ 0) (by rw [enc_zero]; intro h; exact absurd rfl h) (fun n hn ih => ?_) n
  rw [enc_pos hn]
  intro h
  by_cases hq : n / 18446744073709551616 = 0
  · simp only [hq, enc_zero, List.getLast_singleton]
    omega
  · have hne : enc (n / 18446744073709551616) ≠ [] := by rw [enc_pos hq]; simp
    rw [List.getLast_cons hne]
    exact ih hne
theorem enc_nil_iff {n : Nat} : enc n = [] ↔ n = 0 := by
  constructor
  · intro h; by_cases h0 : n = 0
    · exact h0
    · rw [enc_pos h0] at h; simp at h
  · intro h; rw [h, enc_zero]
theorem enc_len_le : ∀ (L n : Nat), n < 18446744073709551616 ^ L → (enc n).length ≤ L
  | 0, n, h => by have : n = 0 := by simpa using h
                  rw [this, enc_zero]; simp
  | L + 1, n, h => by
    by_cases h0 : n = 0
    · rw [h0, enc_zero]; simp
    · rw [enc_pos h0, List.length_cons]
      have := enc_len_le L (n / 18446744073709551616) (by rw [Nat.pow_succ] at h; exact Nat.div_lt_of_lt_mul (by rw [Nat.mul_comm]; exact h))
      omega
theorem len_enc_lt (n : Nat) : n < 18446744073709551616 ^ (enc n).length := by
  have h := val_lt (lim_enc n)
  rw [val_enc, pw_nat] at h
  exact Int.ofNat_lt.1 h
theorem enc_len_ge (L n : Nat) (h : L < (enc n).length) : 18446744073709551616 ^ L ≤ n := by
  by_cases hlt : n < 18446744073709551616 ^ L
  · have := enc_len_le L n hlt; omega
  · omega
theorem enc_one {n : Nat} (h0 : n ≠ 0) (h : n < 18446744073709551616) : enc n = [(n : Int)] := by
  rw [enc_pos h0, show n / 18446744073709551616 = 0 by omega, enc_zero, show n % 18446744073709551616 = n by omega]
theorem rd_nat (xs : List Int) (i : Nat) (h : i < xs.length) : rd xs (i : Int) = xs[i] := by simp [rd, List.getD_eq_getElem?_getD, h]
theorem rd_lim {xs : List Int} (hl : lim xs) (i : Nat) (h : i < xs.length) : 0 ≤ rd xs (i : Int) ∧ rd xs (i : Int) < 18446744073709551616 := by
  rw [rd_nat xs i h]; exact hl _ (List.getElem_mem h)
theorem val_take (xs : List Int) (i : Nat) (h : i < xs.length) : val (xs.take (i + 1)) = val (xs.take i) + pw i * rd xs (i : Int) := by
  rw [List.take_succ_eq_append_getElem h, val_append, List.length_take, Nat.min_eq_left (by omega), rd_nat xs i h]
  simp [val]
theorem val_take_set (xs : List Int) (i : Nat) (v : Int) (h : i < xs.length) : val ((xs.set i v).take (i + 1)) = val (xs.take i) + pw i * v := by
  rw [val_take _ i (by simpa using h), rd_nat _ i (by simpa using h), List.take_set, List.set_eq_of_length_le (by simp; omega)]
  simp
theorem lim_set {xs : List Int} (hl : lim xs) (i : Nat) {v : Int} (h0 : 0 ≤ v) (h1 : v < 18446744073709551616) : lim (xs.set i v) := by
  intro x hx
  rcases List.mem_or_eq_of_mem_set hx with h | h
  · exact hl x h
  · rw [h]; exact ⟨h0, h1⟩
theorem lim_zeros (n : Nat) : lim (List.replicate n 0) := by
  intro x hx; rw [List.eq_of_mem_replicate hx]; decide
theorem lim_take {xs : List Int} (hl : lim xs) (i : Nat) : lim (xs.take i) := fun x hx => hl x (List.mem_of_mem_take hx)
theorem w64 {n : Int} (h0 : -9223372036854775808 ≤ n) (h1 : n < 9223372036854775808) : wrap64 n = n := by unfold wrap64; omega
theorem u64m (n : Int) : IntKind.u64.wrap n = n % 18446744073709551616 := rfl
theorem u64w {n : Int} (h0 : 0 ≤ n) (h1 : n < 18446744073709551616) : IntKind.u64.wrap n = n := by
  rw [u64m]; omega
theorem cut_ev : ∀ (n : Nat) (xs : List Int), xs.length = n → lim xs → n < 1000000000 → Ev (fun k => nat_cut.f k xs) (enc (val xs).toNat)
  | 0, xs, hl, _, _ => by
    have : xs = [] := List.length_eq_zero_iff.1 hl
    subst this
    refine Ev.step (f := fun _ => some []) (fun k => ?_) ?_
    · simp [nat_cut.f, nat_cut.l0]
    · rw [val, show (0 : Int).toNat = 0 from rfl, enc_zero]; exact Ev.now _
  | n + 1, xs, hl, hlim, hn => by
    have hw : wrap64 ((xs.length : Int) - 1) = (n : Int) := by rw [w64 (by omega) (by omega)]; omega
    by_cases hz : rd xs (n : Int) = 0
    · have ih := cut_ev n (xs.take n) (by rw [List.length_take]; omega) (lim_take hlim n) (by omega)
      have hv : val (xs.take n) = val xs := by
        have h2 := val_take xs n (by omega)
        rw [List.take_of_length_le (by omega), hz] at h2
        omega
      rw [hv] at ih
      refine Ev.step (f := fun k => nat_cut.f k (xs.take n)) (fun k => ?_) ih
      simp only [nat_cut.f, nat_cut.l0]
      rw [if_pos (by omega), hw, if_pos (by omega), if_pos (by omega), if_pos hz, if_pos (by omega), Int.toNat_natCast]
    · have he : enc (val xs).toNat = xs := by
        refine enc_val hlim (fun hne => ?_)
        rw [List.getLast_eq_getElem]
        rw [rd_nat xs n (by omega)] at hz
        have e : xs.length - 1 = n := by omega
        simp only [e]
        exact hz
      rw [he]
      refine Ev.step (f := fun _ => some xs) (fun k => ?_) (Ev.now _)
      simp only [nat_cut.f, nat_cut.l0]
      rw [if_pos (by omega), hw, if_pos (by omega), if_pos (by omega), if_neg hz]
theorem Of_eq {n : Nat} (h : n < 9223372036854775808) : nat_Of.f (n : Int) = some (enc n) := by
  unfold nat_Of.f
  by_cases h0 : n = 0
  · rw [if_pos (by omega), h0, enc_zero]
  · rw [if_neg (by omega), u64w (by omega) (by omega), enc_one h0 (by omega)]
end Go.Proofs.Ytjfldeoddjicoaa.QLoadCountAddsUp
