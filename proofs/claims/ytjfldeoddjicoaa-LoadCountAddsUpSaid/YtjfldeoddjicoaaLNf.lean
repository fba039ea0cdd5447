/- Package nat: shifts to the right by less than a word. -/
import Derived.Test.YtjfldeoddjicoaaLNe
namespace Go.Proofs.Ytjfldeoddjicoaa.QLoadCountAddsUp
open Go.RowKit Go.Proofs.YtjfldeoddjicoaaW.PrintWords Go.Proofs.YtjfldeoddjicoaaW.PrintLast Go.Proofs.YtjfldeoddjicoaaW.PrintMore
set_option linter.unusedVariables false
set_option linter.unusedSimpArgs false
theorem shr_low (X s : Nat) (hs : s ≤ 64) (hX : X < 18446744073709551616) : X / 2 ^ s < 2 ^ (64 - s) := by
  rw [Nat.div_lt_iff_lt_mul (Nat.pow_pos (by decide)), Nat.mul_comm, twoB s hs]; exact hX
theorem shr_or (X Y s : Nat) (hs : s ≤ 64) (hX : X < 18446744073709551616) : X / 2 ^ s + 2 ^ (64 - s) * (Y % 2 ^ s) < 18446744073709551616 := by
  have h0 := shr_low X s hs hX
  have h1 : Y % 2 ^ s + 1 ≤ 2 ^ s := Nat.mod_lt _ (Nat.pow_pos (by decide))
  have h2 := Nat.mul_le_mul_left (2 ^ (64 - s)) h1
  rw [Nat.mul_add, Nat.mul_comm (2 ^ (64 - s)) (2 ^ s), twoB s hs] at h2
  omega
theorem shr_sum (X Y s : Nat) (hs : s ≤ 64) : (X / 2 ^ s + 2 ^ (64 - s) * (Y % 2 ^ s)) * 2 ^ s + X % 2 ^ s = X + 18446744073709551616 * (Y % 2 ^ s) := by
  have h := Nat.div_add_mod X (2 ^ s)
  rw [Nat.add_mul, Nat.mul_right_comm, Nat.mul_comm (2 ^ (64 - s)) (2 ^ s), twoB s hs, Nat.mul_comm (X / 2 ^ s)]
  omega
theorem rd_out (xs : List Int) (j : Nat) (h : xs.length ≤ j) : rd xs (j : Int) = 0 := by
  simp [rd, List.getD_eq_getElem?_getD, Nat.not_lt.mpr h]
theorem rd_nonneg {xs : List Int} (hl : lim xs) (j : Nat) : 0 ≤ rd xs (j : Int) ∧ rd xs (j : Int) < 18446744073709551616 := by
  by_cases h : j < xs.length
  · exact rd_lim hl j h
  · rw [rd_out xs j (by omega)]; omega
theorem step_shr (V S A0 T P P2 xm ym x o : Int) (hv : V * S + A0 = T + P * xm) (hp : P2 = P * 18446744073709551616) (hs : o * S + xm = x + 18446744073709551616 * ym) : (V + P * o) * S + A0 = T + P * x + P2 * ym := by
  subst hp
  have e : P * (o * S + xm) = P * (x + 18446744073709551616 * ym) := by rw [hs]
  rw [Int.mul_add, Int.mul_add] at e
  rw [Int.add_mul, Int.mul_assoc P o S, Int.mul_assoc P]
  omega
theorem Shr_l0 (a : List Int) (ha : lim a) (hlen : a.length < 1000000) (s : Nat) (hs : s < 64) (A0 : Int) (hA : 0 ≤ A0 ∧ A0 < ((2 ^ s : Nat) : Int)) : ∀ (d i : Nat) (out : List Int), i + d = a.length → out.length = a.length → lim out →
    val (out.take i) * ((2 ^ s : Nat) : Int) + A0 = val (a.take i) + pw i * (((rd a (i : Int)).toNat % 2 ^ s : Nat) : Int) →
    Ev (fun k => nat_Shr.l0 k a 0 (s : Int) out (a.length : Int) (i : Int)) (enc (val a / ((2 ^ s : Nat) : Int)).toNat) := by
  intro d
  induction d with
  | zero =>
    intro i out hi ho hl hv
    have HV := Aside0.mk hv
    have HA := Aside0.mk hA
    clear hv hA
    have hi' : i = a.length := by omega
    subst hi'
    have hcut := cut_ev _ out ho hl (by omega)
    have q : ¬ (a.length : Int) < (a.length : Int) := by omega
    have hv := HV.out
    rw [List.take_of_length_le (by omega), List.take_of_length_le (Nat.le_refl _), rd_out a a.length (Nat.le_refl _)] at hv
    have e : val a / ((2 ^ s : Nat) : Int) = val out := by
      have hp : (((2 ^ s : Nat) : Int)) ≠ 0 := by have := Int.ofNat_lt.mpr (show 0 < 2 ^ s from Nat.pow_pos (by decide)); omega
      rw [show ((0 : Int).toNat % 2 ^ s) = 0 by simp] at hv
      rw [show ((0 : Nat) : Int) = 0 from rfl, Int.mul_zero, Int.add_zero] at hv
      rw [← hv, Int.add_comm, Int.add_mul_ediv_right _ _ hp, Int.ediv_eq_zero_of_lt HA.out.1 HA.out.2, Int.zero_add]
    rw [e]
    refine Ev.step (f := fun k => (nat_cut.f k out).bind fun t => some t) (fun k => ?_) (Ev.bind hcut (Ev.now _))
    simp only [nat_Shr.l0]
    rw [if_neg q]
  | succ d ih0 =>
    intro i out hi ho hl hv
    have HV := Aside0.mk hv
    have HA := Aside0.mk hA
    clear hv hA
    have b1 : i < a.length := by omega
    have b2 : i < out.length := by omega
    have g1 : (i : Int) < (a.length : Int) := by omega
    have g2 : 0 ≤ (i : Int) := by omega
    have g3 : (i : Int) < (out.length : Int) := by omega
    have g4 : 0 ≤ ((i + 1 : Nat) : Int) := by omega
    have g6 : i + 1 + d = a.length := by omega
    have hw0 : wrap64 ((i : Int) + 0) = (i : Int) := by rw [w64 (by omega) (by omega)]; omega
    have hw : wrap64 ((i : Int) + 1) = ((i + 1 : Nat) : Int) := by rw [w64 (by omega) (by omega)]; omega
    have g7 : 0 ≤ (s : Int) := by omega
    have q1 : s ≤ 64 := by omega
    have q4 : 64 - s ≤ 64 := by omega
    have q44 : 64 - (64 - s) = s := by omega
    have q5 : s = 0 → ¬ (s : Int) > 0 := by intro h; omega
    have q6 : ¬ s = 0 → (s : Int) > 0 := by intro h; omega
    have q7 : i + 1 < a.length → ((i + 1 : Nat) : Int) < (a.length : Int) := by intro h; omega
    have q8 : ¬ i + 1 < a.length → ¬ ((i + 1 : Nat) : Int) < (a.length : Int) := by intro h; omega
    have q9 : ¬ i + 1 < a.length → a.length ≤ i + 1 := by intro h; omega
    have e3 : IntKind.u64.wrap (64 - (s : Int)) = ((64 - s : Nat) : Int) := by rw [u64w (by omega) (by omega)]; omega
    clear hi hlen hs
    have hai := rd_nonneg ha i
    have hbi := rd_nonneg ha (i + 1)
    obtain ⟨X, hX⟩ := Int.eq_ofNat_of_zero_le hai.1
    obtain ⟨Y, hY⟩ := Int.eq_ofNat_of_zero_le hbi.1
    rw [hX] at hai
    rw [hY] at hbi
    have hX' : X < 18446744073709551616 := Int.ofNat_lt.mp hai.2
    have hY' : Y < 18446744073709551616 := Int.ofNat_lt.mp hbi.2
    have k1 := shr_or X Y s q1 hX'
    have k2 := shr_low X s q1 hX'
    have k4 := shr_sum X Y s q1
    have k5 : X / 2 ^ s < 18446744073709551616 := Nat.lt_of_le_of_lt (Nat.div_le_self _ _) hX'
    have hset : ∀ v : Int, val ((out.set i v).take (i + 1)) = val (out.take i) + pw i * v := fun v => val_take_set out i v b2
    have hvn : val ((out.set i ((X / 2 ^ s + 2 ^ (64 - s) * (Y % 2 ^ s) : Nat) : Int)).take (i + 1)) * ((2 ^ s : Nat) : Int) + A0 = val (a.take (i + 1)) + pw (i + 1) * (((rd a ((i + 1 : Nat) : Int)).toNat % 2 ^ s : Nat) : Int) := by
      rw [hset, val_take a i b1, hX, hY, Int.toNat_natCast]
      have hv := HV.out
      rw [hX, Int.toNat_natCast] at hv
      refine step_shr _ _ _ _ _ _ _ _ _ _ hv (pw_succ i) ?_
      have := congrArg Int.ofNat k4
      simp only [Int.ofNat_eq_natCast, Int.natCast_add, Int.natCast_mul] at this ⊢
      exact this
    have ih := ih0 (i + 1) (out.set i ((X / 2 ^ s + 2 ^ (64 - s) * (Y % 2 ^ s) : Nat) : Int)) g6 (by simpa using ho) (lim_set hl i (Int.natCast_nonneg _) (Int.ofNat_lt.mpr k1)) hvn
    clear hvn HV ih0 k4 hset
    refine Ev.step (fun k => ?_) ih
    simp only [nat_Shr.l0]
    rw [if_pos g1, hw0, if_pos g2, if_pos g1, if_pos g7, if_pos g2, if_pos g3, hX, shr_limb X s q1, Option.bind_some, Int.toNat_natCast, hw]
    by_cases hs0 : s = 0
    · subst hs0
      rw [if_neg (q5 rfl)]
      simp only [Nat.pow_zero, Nat.mod_one, Nat.mul_zero, Nat.add_zero, Nat.div_one]
    · rw [if_pos (q6 hs0)]
      by_cases hj : i + 1 < a.length
      · have hr : rd (out.set i ((X / 2 ^ s : Nat) : Int)) (i : Int) = ((X / 2 ^ s : Nat) : Int) := by rw [rd_nat _ i (by simpa using b2), List.getElem_set_self]
        have hsl := shl_limb Y (64 - s) q4
        rw [q44] at hsl
        have hlow : 2 ^ (64 - s) * (Y % 2 ^ s) < 18446744073709551616 := by have := shl_low Y (64 - s) q4; rw [q44] at this; exact this
        rw [if_pos (q7 hj), if_pos g4, e3, if_pos (Int.natCast_nonneg _), hr, hY, hsl, or_limb _ _ _ k2 hlow k5, List.set_set]
      · have hY0 : Y = 0 := by
          have := rd_out a (i + 1) (q9 hj)
          rw [hY] at this
          exact Int.ofNat_eq_zero.mp this
        rw [if_neg (q8 hj), hY0]
        simp only [Nat.zero_mod, Nat.mul_zero, Nat.add_zero]
theorem Shr_ev (m s : Nat) (hs : s < 64) (h : sm m) : Ev (fun k => nat_Shr.f k (enc m) (s : Int)) (enc (m / 2 ^ s)) := by
  have h' : (enc m).length < 1000000 := h
  have hd : Int.tdiv (s : Int) 64 = 0 := by rw [Int.tdiv_eq_ediv_of_nonneg (by omega)]; omega
  have hm : Int.tmod (s : Int) 64 = (s : Int) := by rw [Int.tmod_eq_emod_of_nonneg (by omega)]; omega
  have hw0 : wrap64 0 = 0 := w64 (by omega) (by omega)
  by_cases h0 : m = 0
  · subst h0
    rw [Nat.zero_div, enc_zero]
    refine Ev.congr (fun k => ?_) (Ev.now _)
    simp only [nat_Shr.f]
    rw [hd, hw0, if_pos (by simp)]
  · have hn : (enc m) ≠ [] := by rw [Ne, enc_nil_iff]; exact h0
    have hl : 0 < (enc m).length := List.length_pos_iff.2 hn
    have hw1 : wrap64 (((enc m).length : Int) - 0) = ((enc m).length : Int) := by rw [w64 (by omega) (by omega)]; omega
    have hu : IntKind.u64.wrap (s : Int) = (s : Int) := u64w (by omega) (by omega)
    have q1 : ¬ (0 : Int) ≥ ((enc m).length : Int) := by omega
    have q2 : 0 ≤ ((enc m).length : Int) := by omega
    have q3 : (enc m).length ≤ 35184372088832 := by omega
    have key := Shr_l0 (enc m) (lim_enc m) h' s hs (((rd (enc m) ((0 : Nat) : Int)).toNat % 2 ^ s : Nat) : Int) ⟨Int.natCast_nonneg _, Int.ofNat_lt.mpr (Nat.mod_lt _ (Nat.pow_pos (by decide)))⟩ (enc m).length 0 (List.replicate (enc m).length 0) (by omega) (by simp) (lim_zeros _) (by rw [List.take_zero, List.take_zero, pw_zero]; simp only [val]; rw [Int.zero_mul, Int.one_mul])
    rw [val_enc, ← Int.natCast_ediv, Int.toNat_natCast] at key
    refine Ev.congr (fun k => ?_) key
    simp only [nat_Shr.f]
    rw [hd, hw0, hw1, if_neg q1, if_pos q2, Int.toNat_natCast, if_pos q3, Option.bind_some, hm, hu, List.length_replicate]
    rfl
end Go.Proofs.Ytjfldeoddjicoaa.QLoadCountAddsUp
