/- Package nat: shifts by less than a word. -/
import Derived.Test.YtjfldeoddjicoaaLNd
namespace Go.Proofs.Ytjfldeoddjicoaa.QLoadCountAddsUp
open Go.RowKit Go.Proofs.YtjfldeoddjicoaaW.PrintWords Go.Proofs.YtjfldeoddjicoaaW.PrintLast Go.Proofs.YtjfldeoddjicoaaW.PrintMore
set_option linter.unusedVariables false
set_option linter.unusedSimpArgs false
theorem twoB (s : Nat) (hs : s ≤ 64) : 2 ^ s * 2 ^ (64 - s) = 18446744073709551616 := by
  rw [← Nat.pow_add, show s + (64 - s) = 64 by omega]
theorem shl_limb (X s : Nat) (hs : s ≤ 64) : shl .u64 (X : Int) (s : Int) = ((2 ^ s * (X % 2 ^ (64 - s)) : Nat) : Int) := by
  have e : min ((s : Int).toNat) (IntKind.bits .u64) = s := by show min ((s : Int).toNat) 64 = s; omega
  unfold shl
  rw [e, u64m]
  have h : (X : Int) * 2 ^ s = ((2 ^ s * X : Nat) : Int) := by rw [Int.natCast_mul, Int.natCast_pow]; exact Int.mul_comm _ _
  rw [h, show (18446744073709551616 : Int) = ((18446744073709551616 : Nat) : Int) from rfl, ← Int.natCast_emod, ← twoB s hs, Nat.mul_mod_mul_left]
theorem shr_limb (X s : Nat) (hs : s ≤ 64) : shr .u64 (X : Int) (s : Int) = ((X / 2 ^ s : Nat) : Int) := by
  have e : min ((s : Int).toNat) (IntKind.bits .u64) = s := by show min ((s : Int).toNat) 64 = s; omega
  unfold shr
  rw [e, Int.natCast_ediv, Int.natCast_pow]; rfl
theorem or_limb (O Y s : Nat) (ho : O < 2 ^ s) (hB : 2 ^ s * Y < 18446744073709551616) (hO : O < 18446744073709551616) : Go.bits .or .u64 (O : Int) ((2 ^ s * Y : Nat) : Int) = ((O + 2 ^ s * Y : Nat) : Int) := by
  rw [bits_or_u64_nat _ _ hO hB, Nat.or_comm, ← Nat.two_pow_add_eq_or_of_lt ho, Nat.add_comm]
theorem shl_sum (X s : Nat) (hs : s ≤ 64) : 2 ^ s * (X % 2 ^ (64 - s)) + 18446744073709551616 * (X / 2 ^ (64 - s)) = X * 2 ^ s := by
  have h := Nat.mod_add_div X (2 ^ (64 - s))
  calc 2 ^ s * (X % 2 ^ (64 - s)) + 18446744073709551616 * (X / 2 ^ (64 - s)) = 2 ^ s * (X % 2 ^ (64 - s)) + 2 ^ s * 2 ^ (64 - s) * (X / 2 ^ (64 - s)) := by rw [twoB s hs]
    _ = 2 ^ s * (X % 2 ^ (64 - s) + 2 ^ (64 - s) * (X / 2 ^ (64 - s))) := by rw [Nat.mul_add, Nat.mul_assoc]
    _ = X * 2 ^ s := by rw [h, Nat.mul_comm]
theorem shl_top (X s : Nat) (hs : s ≤ 64) (hX : X < 18446744073709551616) : X / 2 ^ (64 - s) < 2 ^ s := by
  rw [Nat.div_lt_iff_lt_mul (Nat.pow_pos (by decide)), twoB s hs]; exact hX
theorem shl_low (X s : Nat) (hs : s ≤ 64) : 2 ^ s * (X % 2 ^ (64 - s)) < 18446744073709551616 := by
  rw [← twoB s hs]; exact Nat.mul_lt_mul_of_pos_left (Nat.mod_lt _ (Nat.pow_pos (by decide))) (Nat.pow_pos (by decide))
theorem shl_or (O X s : Nat) (hs : s ≤ 64) (ho : O < 2 ^ s) (hX : X < 18446744073709551616) : O + 2 ^ s * (X % 2 ^ (64 - s)) < 18446744073709551616 := by
  have h1 : X % 2 ^ (64 - s) + 1 ≤ 2 ^ (64 - s) := Nat.mod_lt _ (Nat.pow_pos (by decide))
  have h2 := Nat.mul_le_mul_left (2 ^ s) h1
  rw [Nat.mul_add, twoB s hs] at h2
  omega
theorem step_shl (V A O P P2 lo hi x S : Int) (hv : V = A * S) (hp : P2 = P * 18446744073709551616) (hs : lo + 18446744073709551616 * hi = x * S) : V + P * (O + lo - O) + P2 * (hi - 0) = (A + P * x) * S := by
  subst hv hp
  rw [show O + lo - O = lo by omega, Int.sub_zero, Int.add_mul, Int.mul_assoc P x S, ← hs, Int.mul_add, Int.mul_assoc, Int.add_assoc]
theorem Shl_l0 (a : List Int) (ha : lim a) (hlen : a.length < 1000000) (s : Nat) (hs : s < 64) : ∀ (d i : Nat) (out : List Int), i + d = a.length → out.length = a.length + 1 → lim out →
    val out = val (a.take i) * ((2 ^ s : Nat) : Int) → rd out (i : Int) < ((2 ^ s : Nat) : Int) → (∀ j : Nat, i < j → j < a.length + 1 → rd out (j : Int) = 0) →
    Ev (fun k => nat_Shl.l0 k 0 (s : Int) out a (a.length : Int) (i : Int)) (enc (val a * ((2 ^ s : Nat) : Int)).toNat) := by
  intro d
  induction d with
  | zero =>
    intro i out hi ho hl hv hr hz
    have HV := Aside0.mk hv
    have HW := Aside0.mk hr
    clear hv hr
    have hi' : i = a.length := by omega
    subst hi'
    have hcut := cut_ev _ out ho hl (by omega)
    rw [HV.out, List.take_of_length_le (Nat.le_refl _)] at hcut
    refine Ev.step (f := fun k => (nat_cut.f k out).bind fun t => some t) (fun k => ?_) (Ev.bind hcut (Ev.now _))
    simp only [nat_Shl.l0]
    rw [if_neg (by omega)]
  | succ d ih0 =>
    intro i out hi ho hl hv hr hz
    have HV := Aside0.mk hv
    have HW := Aside0.mk hr
    clear hv hr
    have b1 : i < a.length := by omega
    have b2 : i < out.length := by omega
    have b3 : i + 1 < out.length := by omega
    have g1 : (i : Int) < (a.length : Int) := by omega
    have g2 : 0 ≤ (i : Int) := by omega
    have g3 : (i : Int) < (out.length : Int) := by omega
    have g4 : 0 ≤ ((i + 1 : Nat) : Int) := by omega
    have g5 : ((i + 1 : Nat) : Int) < (out.length : Int) := by omega
    have g6 : i + 1 + d = a.length := by omega
    have hw0 : wrap64 ((i : Int) + 0) = (i : Int) := by rw [w64 (by omega) (by omega)]; omega
    have hw : wrap64 ((i : Int) + 1) = ((i + 1 : Nat) : Int) := by rw [w64 (by omega) (by omega)]; omega
    have g7 : 0 ≤ (s : Int) := by omega
    have hz1 := hz (i + 1) (by omega) (by omega)
    have q1 : s ≤ 64 := by omega
    have q2 : i ≠ i + 1 := by omega
    have q3 : ∀ j : Nat, i + 1 < j → j < a.length + 1 → i + 1 ≠ j ∧ i ≠ j ∧ j < out.length ∧ i < j := by intro j h1 h2; omega
    have q4 : 64 - s ≤ 64 := by omega
    have q5 : s = 0 → ¬ (s : Int) > 0 := by intro h; omega
    have q6 : ¬ s = 0 → (s : Int) > 0 := by intro h; omega
    have e3 : IntKind.u64.wrap (64 - (s : Int)) = ((64 - s : Nat) : Int) := by rw [u64w (by omega) (by omega)]; omega
    clear hi hlen hs
    have hai := rd_lim ha i b1
    have hoi := rd_lim hl i b2
    obtain ⟨X, hX⟩ := Int.eq_ofNat_of_zero_le hai.1
    obtain ⟨O, hO⟩ := Int.eq_ofNat_of_zero_le hoi.1
    rw [hX] at hai
    have hr := HW.out
    rw [hO] at hr hoi
    have hX' : X < 18446744073709551616 := Int.ofNat_lt.mp hai.2
    have hO' : O < 18446744073709551616 := Int.ofNat_lt.mp hoi.2
    have hr' : O < 2 ^ s := Int.ofNat_lt.mp hr
    have k1 := shl_or O X s q1 hr' hX'
    have k2 := shl_top X s q1 hX'
    have k3 := shl_low X s q1
    have k4 := shl_sum X s q1
    have e1 := shl_limb X s q1
    have e2 := or_limb O (X % 2 ^ (64 - s)) s hr' k3 hO'
    have hval : val ((out.set i ((O + 2 ^ s * (X % 2 ^ (64 - s)) : Nat) : Int)).set (i + 1) ((X / 2 ^ (64 - s) : Nat) : Int)) = val (a.take (i + 1)) * ((2 ^ s : Nat) : Int) := by
      rw [val_set _ (i + 1) _ (by simpa using b3), rd_set_ne out i (i + 1) _ q2 b3, hz1, val_set out i _ b2, hO, val_take a i b1, hX]
      have := step_shl (val out) (val (a.take i)) (O : Int) (pw i) (pw (i + 1)) ((2 ^ s * (X % 2 ^ (64 - s)) : Nat) : Int) ((X / 2 ^ (64 - s) : Nat) : Int) (X : Int) ((2 ^ s : Nat) : Int) HV.out (pw_succ i) (by
        have := congrArg Int.ofNat k4
        simp only [Int.ofNat_eq_natCast, Int.natCast_add, Int.natCast_mul] at this ⊢
        exact this)
      rw [Int.natCast_add]
      exact this
    have hB2 : X / 2 ^ (64 - s) < 18446744073709551616 := Nat.lt_of_le_of_lt (Nat.div_le_self _ _) hX'
    have hlim2 : lim ((out.set i ((O + 2 ^ s * (X % 2 ^ (64 - s)) : Nat) : Int)).set (i + 1) ((X / 2 ^ (64 - s) : Nat) : Int)) :=
      lim_set (lim_set hl i (Int.natCast_nonneg _) (Int.ofNat_lt.mpr k1)) (i + 1) (Int.natCast_nonneg _) (Int.ofNat_lt.mpr hB2)
    have hrd1 : rd ((out.set i ((O + 2 ^ s * (X % 2 ^ (64 - s)) : Nat) : Int)).set (i + 1) ((X / 2 ^ (64 - s) : Nat) : Int)) ((i + 1 : Nat) : Int) = ((X / 2 ^ (64 - s) : Nat) : Int) := by
      rw [rd_nat _ (i + 1) (by simpa using b3), List.getElem_set_self]
    have ih := ih0 (i + 1) ((out.set i ((O + 2 ^ s * (X % 2 ^ (64 - s)) : Nat) : Int)).set (i + 1) ((X / 2 ^ (64 - s) : Nat) : Int)) g6 (by simpa using ho) hlim2 hval (by
      rw [hrd1]; exact Int.ofNat_lt.mpr k2) (by
      intro j h1 h2
      obtain ⟨r1, r2, r3, r4⟩ := q3 j h1 h2
      rw [rd_set_ne _ (i + 1) j _ r1 (by rw [List.length_set]; exact r3), rd_set_ne _ i j _ r2 r3]
      exact hz j r4 h2)
    clear hval hlim2 k1 k2 k3 k4 hrd1 ih0 hz hr hr'
    refine Ev.step (fun k => ?_) ih
    simp only [nat_Shl.l0]
    rw [if_pos g1, if_pos g2, if_pos g1, hw0, if_pos g2, if_pos g3, if_pos g7, hX, hO, e1, e2, Option.bind_some]
    by_cases hs0 : s = 0
    · subst hs0
      have hx0 : X / 2 ^ (64 - 0) = 0 := Nat.div_eq_of_lt hX'
      rw [if_neg (q5 rfl), hw, Int.toNat_natCast]
      congr 1
      rw [hx0]
      apply List.ext_getElem (by simp)
      intro j h1 h2
      by_cases hj : i + 1 = j
      · subst hj
        rw [List.getElem_set_self, ← rd_nat _ (i + 1) (by simpa using b3), rd_set_ne out i (i + 1) _ q2 b3, hz1]; rfl
      · rw [List.getElem_set_ne hj]
    · rw [if_pos (q6 hs0), e3, if_pos (Int.natCast_nonneg _), hw, if_pos g4, if_pos g5, shr_limb X (64 - s) q4, Int.toNat_natCast, Int.toNat_natCast]
theorem Shl_ev (m s : Nat) (hs : s < 64) (h : sm m) : Ev (fun k => nat_Shl.f k (enc m) (s : Int)) (enc (m * 2 ^ s)) := by
  have h' : (enc m).length < 1000000 := h
  by_cases h0 : m = 0
  · subst h0
    rw [Nat.zero_mul, enc_zero]
    refine Ev.congr (fun k => ?_) (Ev.now _)
    simp only [nat_Shl.f]
    rw [if_pos (by simp)]
  · have hn : (enc m) ≠ [] := by rw [Ne, enc_nil_iff]; exact h0
    have hl : 0 < (enc m).length := List.length_pos_iff.2 hn
    have hd : Int.tdiv (s : Int) 64 = 0 := by rw [Int.tdiv_eq_ediv_of_nonneg (by omega)]; omega
    have hm : Int.tmod (s : Int) 64 = (s : Int) := by rw [Int.tmod_eq_emod_of_nonneg (by omega)]; omega
    have hw0 : wrap64 0 = 0 := w64 (by omega) (by omega)
    have hw1 : wrap64 (((enc m).length : Int) + 0) = ((enc m).length : Int) := by rw [w64 (by omega) (by omega)]; omega
    have hw2 : wrap64 (((enc m).length : Int) + 1) = (((enc m).length + 1 : Nat) : Int) := by rw [w64 (by omega) (by omega)]; omega
    have hu : IntKind.u64.wrap (s : Int) = (s : Int) := u64w (by omega) (by omega)
    have hp : (0 : Int) < ((2 ^ s : Nat) : Int) := Int.ofNat_lt.mpr (Nat.pow_pos (by decide))
    have q1 : ¬ ((enc m).length : Int) = 0 := by omega
    have q2 : 0 ≤ (((enc m).length + 1 : Nat) : Int) := by omega
    have q3 : (enc m).length + 1 ≤ 35184372088832 := by omega
    have key := Shl_l0 (enc m) (lim_enc m) h' s hs (enc m).length 0 (List.replicate ((enc m).length + 1) 0) (by omega) (by simp) (lim_zeros _) (by rw [val_zeros]; simp [val]) (by rw [rd_zeros]; exact hp) (fun j _ _ => rd_zeros _ j)
    rw [val_enc, ← Int.natCast_mul, Int.toNat_natCast] at key
    refine Ev.congr (fun k => ?_) key
    simp only [nat_Shl.f]
    rw [if_neg q1, hd, hm, hw0, hw1, hw2, if_pos q2, Int.toNat_natCast, if_pos q3, hu]
    rfl
end Go.Proofs.Ytjfldeoddjicoaa.QLoadCountAddsUp
