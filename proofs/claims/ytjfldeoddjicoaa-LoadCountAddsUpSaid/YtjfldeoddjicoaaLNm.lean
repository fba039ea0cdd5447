/- Package nat: DivMod answers quotient and rest. Condition: the limbs are fewer than a hundred thousand, and the divisor is not 0. -/
import Derived.Test.YtjfldeoddjicoaaLNl
namespace Go.Proofs.Ytjfldeoddjicoaa.QLoadCountAddsUp
open Go.RowKit Go.Proofs.YtjfldeoddjicoaaW.PrintWords Go.Proofs.YtjfldeoddjicoaaW.PrintLast Go.Proofs.YtjfldeoddjicoaaW.PrintMore
set_option linter.unusedVariables false
set_option linter.unusedSimpArgs false
theorem ring_dm (Pj W V D X : Int) : Pj * (W + 18446744073709551616 * V) * D + (X - W * (Pj * D)) = Pj * 18446744073709551616 * V * D + X := by grind
theorem DivMod_l0 (s : Nat) (hs : s < 64) (d : List Int) (n : Nat) (hn : 2 ≤ n) (hdl : d.length = n) (hd : lim d) (htop : 9223372036854775808 ≤ rd d ((n - 1 : Nat) : Int)) (hD : 0 < val d) (T : Int) (L : Nat) (hL : L + 2 < 1000000) :
    ∀ (i : Nat) (x qs : List Int), i + n ≤ L + 1 → x.length = L + 1 → lim x → lim qs → i ≤ qs.length → qs.length < 1000000 → val x < pw i * val d → pw i * val (qs.drop i) * val d + val x = T →
    Ev (fun k => nat_DivMod.l0 k (s : Int) d x qs ((i : Int) - 1)) (enc (T / val d).toNat, enc ((T % val d).toNat / 2 ^ s)) := by
  have HL := Aside0.mk hL
  intro i
  induction i with
  | zero =>
    intro x qs hi hxl hx hq hiq hql hX hT
    rw [List.drop_zero, pw_zero, Int.one_mul] at hT
    rw [pw_zero, Int.one_mul] at hX
    have h0 := val_nonneg hx
    have hq2 : T / val d = val qs := by
      rw [← hT, Int.mul_comm, Int.mul_add_ediv_left _ _ (by omega), Int.ediv_eq_zero_of_lt h0 hX, Int.add_zero]
    have hm2 : T % val d = val x := by rw [← hT, Int.mul_comm, Int.mul_add_emod_self_left, Int.emod_eq_of_lt h0 hX]
    rw [hq2, hm2]
    have hc1 := cut_ev qs.length qs rfl hq (by omega)
    have hc2 := cut_ev x.length x rfl hx (by omega)
    have hxn : (val x).toNat < 18446744073709551616 ^ x.length := by
      have := val_lt hx
      rw [pw_nat] at this
      omega
    have hc3 := Shr_ev (val x).toNat s hs (sm_of x.length hxn (by omega))
    refine Ev.step (f := fun k => (nat_cut.f k qs).bind fun t => (nat_cut.f k x).bind fun u => (nat_Shr.f k u (s : Int)).bind fun v => some (t, v)) (fun k => ?_) (Ev.bind hc1 (Ev.bind hc2 (Ev.bind hc3 (Ev.now _))))
    simp only [nat_DivMod.l0]
    rw [if_neg (by omega)]
  | succ j ih =>
    intro x qs hi hxl hx hq hiq hql hX hT
    have hE : 0 < pw j * val d := Int.mul_pos (pw_pos j) hD
    have hX2 : val x < pw j * val d * 18446744073709551616 := by
      rw [pw_succ] at hX
      rw [Int.mul_right_comm]; exact hX
    have h0 := val_nonneg hx
    obtain ⟨w0, w1, w2, w3, w4, w5, w6⟩ := digit_of hE h0 hX2
    have hdlt := val_lt hd
    have hXP : val x < pw (j + n + 1) := by
      have h1 := Int.mul_le_mul_of_nonneg_left (Int.le_of_lt hdlt) (Int.le_of_lt (pw_pos (j + 1)))
      rw [hdl, ← pw_add, show j + 1 + n = j + n + 1 by omega] at h1
      exact Int.lt_of_lt_of_le hX h1
    have hjn : j + n < x.length := by omega
    have hxl2 : x.length < 1000000 := by omega
    have c1 : (((j + 1 : Nat) : Int) - 1) = (j : Int) := by omega
    have c2 : (j : Int) ≥ 0 := by omega
    have c3 : (j : Int) < (qs.length : Int) := by omega
    have c4 : j < 9000000 := by omega
    have c5 : j + d.length < 1000000 := by omega
    have c6 : j + d.length < x.length := by omega
    have c7 : x.length < 2000000 := by omega
    have c8 : j < qs.length := by omega
    have hXP' := hXP
    rw [← hdl] at hXP'
    obtain ⟨g, g1, g2, g3⟩ := guess_ev x d j n _ hn hdl hjn hxl2 hd hx htop w0 w1 w2 hXP
    obtain ⟨W, hW⟩ : ∃ W, W = val x / (pw j * val d) := ⟨_, rfl⟩
    rw [← hW] at w0 w1 w2 w3 w4 w5 w6 g2
    have hnext : ∀ x' : List Int, x'.length = x.length → lim x' → val x' = val x - W * (pw j * val d) → Ev (fun k => nat_DivMod.l0 k (s : Int) d x' (qs.set j W) ((j : Int) - 1)) (enc (T / val d).toNat, enc ((T % val d).toNat / 2 ^ s)) := by
      intro x' h1 h2 h3
      refine ih x' (qs.set j W) (by omega) (by omega) h2 (lim_set hq j w0 w1) (by rw [List.length_set]; omega) (by rw [List.length_set]; exact hql) (by rw [h3]; exact w4) ?_
      rw [val_drop _ j (by rw [List.length_set]; exact c8), rd_set_self _ _ _ c8, drop_set _ _ _ _ (Nat.lt_succ_self j), h3, ring_dm, ← pw_succ]
      exact hT
    have hg0 : 0 ≤ g := by omega
    have hp := w64p j c4
    have HP := Aside0.mk hp
    clear hp
    obtain ⟨x', t1, t2, t3, t4, t5⟩ := take_ev d hd j g ⟨hg0, g3⟩ c5 x c6 c7 hx hXP'
    have eE : pw j * (g * val d) = g * (pw j * val d) := by rw [← Int.mul_assoc, Int.mul_comm (pw j), Int.mul_assoc]
    rw [eE] at t1 t5
    have hbody : Ev (fun k => if (decide (val x < g * (pw j * val d)) = true) then nat_DivMod.l1 k (s : Int) d x' qs (j : Int) (IntKind.u64.wrap (g - 1)) else if 0 ≤ (j : Int) then (if (j : Int) < (qs.length : Int) then nat_DivMod.l0 k (s : Int) d x' (qs.set (j : Int).toNat g) (wrap64 ((j : Int) - 1)) else none) else none) (enc (T / val d).toNat, enc ((T % val d).toNat / 2 ^ s)) := by
      by_cases hc : val x < g * (pw j * val d)
      · rw [if_pos hc] at t5
        have hgW := w6 g hc
        have hw : IntKind.u64.wrap (g - 1) = g - 1 := u64w (by omega) (by omega)
        have eg : g - 1 + 1 = g := by omega
        rw [hdl] at t4 t5
        have := DivMod_l1 (s : Int) d x j n (val x) W _ qs hdl hxl2 hjn hd hE h0 hX2 hW c8 hnext (g - 1 - W).toNat (g - 1) x' (by omega) (by omega) t2 t3 t4 (by rw [eg]; exact t5) (by rw [eg]; exact hc)
        refine Ev.congr (fun k => ?_) this
        rw [if_pos (decide_eq_true hc), hw]
      · rw [if_neg hc] at t5
        have hle := w5 g (by omega)
        have hgW : g = W := by omega
        subst hgW
        refine Ev.congr (fun k => ?_) (hnext x' t2 t3 (by rw [t5, Int.add_zero]))
        rw [if_neg (by simpa using hc), if_pos c2, if_pos c3, HP.out, Int.toNat_natCast]
    refine Ev.step (f := fun k => (nat_guess.f k x d (j : Int)).bind fun g => (nat_take.f k x d (j : Int) g).bind fun t => if t.1 = true then nat_DivMod.l1 k (s : Int) d t.2 qs (j : Int) (IntKind.u64.wrap (g - 1)) else if 0 ≤ (j : Int) then (if (j : Int) < (qs.length : Int) then nat_DivMod.l0 k (s : Int) d t.2 (qs.set (j : Int).toNat g) (wrap64 ((j : Int) - 1)) else none) else none) (fun k => ?_) (Ev.bind g1 (Ev.bind t1 hbody))
    simp only [nat_DivMod.l0]
    rw [c1, if_pos c2]
theorem enc_top (n : Nat) (L : Nat) (hL : (enc n).length = L + 1) (s : Nat) (hs : s < 64) (h1 : 9223372036854775808 ≤ (rd (enc n) (L : Int)).toNat * 2 ^ s) (h2 : (rd (enc n) (L : Int)).toNat * 2 ^ s < 18446744073709551616) :
    (enc (n * 2 ^ s)).length = L + 1 ∧ 9223372036854775808 ≤ rd (enc (n * 2 ^ s)) (L : Int) := by
  have hP : 0 < 2 ^ s := Nat.pow_pos (by decide)
  have hB := twoB s (by omega)
  have b1 : L < (enc n).length := by omega
  have ht := rd_lim (lim_enc n) L b1
  obtain ⟨t, ht'⟩ : ∃ t : Nat, rd (enc n) (L : Int) = t := ⟨_, (Int.toNat_of_nonneg ht.1).symm⟩
  have e1 := val_take (enc n) L b1
  rw [List.take_of_length_le (by omega), val_enc, ht', pw_nat] at e1
  have hlo := val_lt (lim_take (lim_enc n) L)
  rw [List.length_take, Nat.min_eq_left (by omega), pw_nat] at hlo
  have hl0 := val_nonneg (lim_take (lim_enc n) L)
  obtain ⟨u, hu⟩ : ∃ u : Nat, val ((enc n).take L) = u := ⟨_, (Int.toNat_of_nonneg hl0).symm⟩
  rw [hu] at e1 hlo
  rw [ht', Int.toNat_natCast] at h1 h2
  have en : n = u + 18446744073709551616 ^ L * t := by
    have : (n : Int) = ((u + 18446744073709551616 ^ L * t : Nat) : Int) := by rw [e1, Int.natCast_add, Int.natCast_mul]
    exact Int.ofNat_inj.1 this
  have hu2 : u < 18446744073709551616 ^ L := Int.ofNat_lt.1 hlo
  have htl : t + 1 ≤ 2 ^ (64 - s) := by
    rw [Nat.mul_comm, ← hB] at h2
    exact Nat.lt_of_mul_lt_mul_left h2
  obtain ⟨Q, hQ⟩ : ∃ Q, Q = 18446744073709551616 ^ L := ⟨_, rfl⟩
  rw [← hQ] at en hu2
  have hQ0 : 0 < Q := by rw [hQ]; exact Nat.pow_pos (by decide)
  have hup : n * 2 ^ s < Q * 18446744073709551616 := by
    have a1 : n < Q * (t + 1) := by rw [Nat.mul_add, Nat.mul_one]; omega
    have a2 := Nat.mul_lt_mul_of_pos_right a1 hP
    have a3 := Nat.mul_le_mul_right (2 ^ s) htl
    rw [Nat.mul_comm (2 ^ (64 - s)), hB] at a3
    have a4 := Nat.mul_le_mul_left Q a3
    rw [← Nat.mul_assoc] at a4
    omega
  have hlow : Q * 9223372036854775808 ≤ n * 2 ^ s := by
    have a1 : Q * t ≤ n := by omega
    have a2 := Nat.mul_le_mul_right (2 ^ s) a1
    have a3 := Nat.mul_le_mul_left Q h1
    rw [← Nat.mul_assoc] at a3
    omega
  have hlen1 : (enc (n * 2 ^ s)).length ≤ L + 1 := enc_len_le _ _ (by rw [Nat.pow_succ, ← hQ]; exact hup)
  have hlen2 : (enc n).length ≤ (enc (n * 2 ^ s)).length := enc_len_mono (Nat.le_mul_of_pos_right n hP)
  have hlen : (enc (n * 2 ^ s)).length = L + 1 := by omega
  refine ⟨hlen, ?_⟩
  have b2 : L < (enc (n * 2 ^ s)).length := by omega
  have f1 := val_take (enc (n * 2 ^ s)) L b2
  rw [List.take_of_length_le (by omega), val_enc, pw_nat, ← hQ] at f1
  have flo := val_lt (lim_take (lim_enc (n * 2 ^ s)) L)
  rw [List.length_take, Nat.min_eq_left (by omega), pw_nat, ← hQ] at flo
  have ft := rd_lim (lim_enc (n * 2 ^ s)) L b2
  generalize rd (enc (n * 2 ^ s)) (L : Int) = v at *
  obtain ⟨v, rfl⟩ := Int.eq_ofNat_of_zero_le ft.1
  have fl0 := val_nonneg (lim_take (lim_enc (n * 2 ^ s)) L)
  obtain ⟨u2, hu2'⟩ : ∃ u2 : Nat, val ((enc (n * 2 ^ s)).take L) = u2 := ⟨_, (Int.toNat_of_nonneg fl0).symm⟩
  rw [hu2'] at f1 flo
  have fn : n * 2 ^ s = u2 + Q * v := by
    have : ((n * 2 ^ s : Nat) : Int) = ((u2 + Q * v : Nat) : Int) := by rw [f1, Int.natCast_add, Int.natCast_mul]
    exact Int.ofNat_inj.1 this
  have fu : u2 < Q := Int.ofNat_lt.1 flo
  rw [fn] at hlow
  by_cases hc : 9223372036854775808 ≤ v
  · omega
  · have a1 := Nat.mul_le_mul_left Q (show v + 1 ≤ 9223372036854775808 by omega)
    rw [Nat.mul_add, Nat.mul_one] at a1
    omega
theorem cpy_zeros (xs : List Int) (L : Nat) (h : xs.length ≤ L) : cpy (List.replicate L 0) xs = xs ++ List.replicate (L - xs.length) 0 := by
  unfold cpy
  rw [List.length_replicate, Nat.min_eq_left h, List.take_of_length_le (Nat.le_refl _), List.drop_replicate]
theorem DivMod_ev (m n : Nat) (hn : n ≠ 0) (hm : (enc m).length + 2 < 1000000) (hsn : sm n) : Ev (fun k => nat_DivMod.f k (enc m) (enc n)) (enc (m / n), enc (m % n)) := by
  have hsm : sm m := by unfold sm; omega
  have hcmp := Cmp_ev m n hsm hsn
  by_cases hlt : m < n
  · rw [if_pos hlt] at hcmp
    rw [Nat.div_eq_of_lt hlt, Nat.mod_eq_of_lt hlt, enc_zero]
    simp only [nat_DivMod.f]
    refine Ev.bind hcmp (Ev.congr (fun k => ?_) (Ev.now _))
    rw [if_pos (by decide)]
  · rw [if_neg hlt] at hcmp
    have hcn : ¬ (if m = n then (0 : Int) else 1) < 0 := by split <;> decide
    have hle := enc_len_mono (show n ≤ m by omega)
    have hne : enc n ≠ [] := by rw [Ne, enc_nil_iff]; exact hn
    have hpos := List.length_pos_iff.2 hne
    simp only [nat_DivMod.f]
    refine Ev.bind hcmp ?_
    simp only [if_neg hcn]
    by_cases h1 : (enc n).length = 1
    · have hn1 : n < 18446744073709551616 := by
        have := len_enc_lt n
        rw [h1] at this
        omega
      have e0 : rd (enc n) 0 = (n : Int) := by rw [enc_one hn hn1]; simp [rd]
      have hsml := small_ev m n (by omega) hn1 hsm
      have hr : m % n < n := Nat.mod_lt _ (by omega)
      have hcut := cut_ev 1 [((m % n : Nat) : Int)] rfl (by
        intro z hz
        rw [List.mem_singleton] at hz
        subst hz
        clear hcmp hcn hsml
        generalize m % n = r at *
        omega) (by decide)
      have hv : (val [((m % n : Nat) : Int)]).toNat = m % n := by
        simp only [val]
        generalize m % n = r at *
        omega
      rw [hv] at hcut
      have c1 : ((enc n).length : Int) = 1 := by omega
      have c2 : (0 : Int) < ((enc n).length : Int) := by omega
      simp only [if_pos c1, if_pos c2, e0]
      exact Ev.bind hsml (Ev.bind hcut (Ev.now _))
    · obtain ⟨L, hL⟩ : ∃ L, (enc n).length = L + 1 := ⟨(enc n).length - 1, by omega⟩
      have b1 : L < (enc n).length := by omega
      have ht := rd_lim (lim_enc n) L b1
      have htz : rd (enc n) (L : Int) ≠ 0 := by
        have h := enc_last n hne
        rw [List.getLast_eq_getElem] at h
        rw [rd_nat _ L b1]
        have e : (enc n).length - 1 = L := by omega
        simpa only [e] using h
      obtain ⟨s, hs, hs1, hs2, hs3⟩ := Lz_ev (rd (enc n) (L : Int)).toNat (by omega) (by omega)
      rw [Int.toNat_of_nonneg ht.1] at hs
      obtain ⟨t1, t2⟩ := enc_top n L hL s hs1 hs2 hs3
      have hP : 0 < 2 ^ s := Nat.pow_pos (by decide)
      have hshn := Shl_ev n s hs1 hsn
      have hshm := Shl_ev m s hs1 hsm
      obtain ⟨M, hM⟩ : ∃ M, (enc m).length = M := ⟨_, rfl⟩
      have hmlen : (enc (m * 2 ^ s)).length ≤ M + 1 := by
        refine enc_len_le _ _ ?_
        have h1 := len_enc_lt m
        have h2 : 2 ^ s < 18446744073709551616 := Nat.pow_lt_pow_right (m := s) (n := 64) (by decide) hs1
        rw [Nat.pow_succ, ← hM]
        exact Nat.mul_lt_mul'' h1 h2
      have hMlt := len_enc_lt m
      rw [hM] at hMlt
      have hnge := enc_len_ge L n b1
      have c1 : ¬ ((enc n).length : Int) = 1 := by omega
      have c2 : ((enc n).length : Int) - 1 = (L : Int) := by omega
      have c3 : (0 : Int) ≤ (L : Int) := by omega
      have c4 : (L : Int) < ((enc n).length : Int) := by omega
      have c5 : M < 9000000 := by omega
      have c6 : (0 : Int) ≤ ((M + 1 : Nat) : Int) := by omega
      have c7 : M + 1 ≤ 35184372088832 := by omega
      have c8 : L + 1 ≤ M := by omega
      have c9 : M - (L + 1) < 9000000 := by omega
      have c10 : (0 : Int) ≤ ((M - (L + 1) + 1 : Nat) : Int) := by omega
      have c11 : M - (L + 1) + 1 ≤ 35184372088832 := by omega
      have c12 : 2 ≤ L + 1 := by omega
      have c13 : M - (L + 1) + 1 + (L + 1) ≤ M + 1 := by omega
      have c14 : M + 2 < 1000000 := by omega
      have c15 : (((M - (L + 1) + 1 : Nat) : Int) - 1) = ((M - (L + 1) : Nat) : Int) := by omega
      have c16 : M - (L + 1) + 1 < 1000000 := by omega
      have c17 : M - (L + 1) + 1 + L = M := by omega
      have c18 : L < 9000000 := by omega
      have hxl : (enc (m * 2 ^ s) ++ List.replicate (M + 1 - (enc (m * 2 ^ s)).length) 0).length = M + 1 := by
        rw [List.length_append, List.length_replicate]; omega
      have hxlim : lim (enc (m * 2 ^ s) ++ List.replicate (M + 1 - (enc (m * 2 ^ s)).length) 0) := lim_append.2 ⟨lim_enc _, lim_zeros _⟩
      have hxv : val (enc (m * 2 ^ s) ++ List.replicate (M + 1 - (enc (m * 2 ^ s)).length) 0) = ((m * 2 ^ s : Nat) : Int) := by
        rw [val_append, val_zeros, Int.mul_zero, Int.add_zero, val_enc]
      have hlt2 : val (enc (m * 2 ^ s) ++ List.replicate (M + 1 - (enc (m * 2 ^ s)).length) 0) < pw (M - (L + 1) + 1) * val (enc (n * 2 ^ s)) := by
        rw [hxv, val_enc, pw_nat, ← Int.natCast_mul]
        refine Int.ofNat_lt.2 ?_
        rw [← Nat.mul_assoc]
        refine Nat.mul_lt_mul_of_pos_right ?_ hP
        have h1 := Nat.mul_le_mul_left (18446744073709551616 ^ (M - (L + 1) + 1)) hnge
        rw [← Nat.pow_add, c17] at h1
        omega
      have hdpos : 0 < val (enc (n * 2 ^ s)) := by
        rw [val_enc]
        have : 0 < n * 2 ^ s := Nat.mul_pos (by omega) hP
        omega
      have hmain := DivMod_l0 s hs1 (enc (n * 2 ^ s)) (L + 1) c12 t1 (lim_enc _) t2 hdpos ((m * 2 ^ s : Nat) : Int) M c14 (M - (L + 1) + 1) _ (List.replicate (M - (L + 1) + 1) 0) c13 hxl hxlim (lim_zeros _) (by rw [List.length_replicate]; exact Nat.le_refl _) (by rw [List.length_replicate]; exact c16) hlt2 (by
        rw [List.drop_of_length_le (by simp), hxv]; simp [val])
      rw [val_enc, ← Int.natCast_ediv, ← Int.natCast_emod, Int.toNat_natCast, Int.toNat_natCast, Nat.mul_div_mul_right _ _ hP, Nat.mul_mod_mul_right, Nat.mul_div_cancel _ hP, c15] at hmain
      have hcp := cpy_zeros (enc (m * 2 ^ s)) (M + 1) hmlen
      have hw0 : wrap64 (L : Int) = (L : Int) := w64 (by omega) (by omega)
      have hw1 := w64s M c5
      have hw2 : wrap64 ((M : Int) - ((L + 1 : Nat) : Int)) = ((M - (L + 1) : Nat) : Int) := w64d M (L + 1) c8 c5
      have hw3 := w64s (M - (L + 1)) c9
      rw [hM]
      simp only [if_neg c1, c2, hw0, if_pos c3, if_pos c4]
      refine Ev.bind hs ?_
      refine Ev.bind hshn ?_
      simp only [hw1, if_pos c6, Int.toNat_natCast, if_pos c7]
      refine Ev.bind hshm ?_
      simp only [hL, hw2, hw3, if_pos c10, Int.toNat_natCast, if_pos c11, hcp]
      exact hmain
end Go.Proofs.Ytjfldeoddjicoaa.QLoadCountAddsUp
