/- Package nat: the sum, the difference, the comparison and the reading as a number. Condition of each: the limbs are fewer than a million. -/
import Derived.Test.YtjfldeoddjicoaaLNa
namespace Go.Proofs.Ytjfldeoddjicoaa.QLoadCountAddsUp
open Go.RowKit Go.Proofs.YtjfldeoddjicoaaW.PrintWords Go.Proofs.YtjfldeoddjicoaaW.PrintLast Go.Proofs.YtjfldeoddjicoaaW.PrintMore
theorem step_add (P vo va vb c ra rb : Int) (hv : vo + P * c = va + vb) : vo + P * ((ra + rb + c) % 18446744073709551616) + P * 18446744073709551616 * ((ra + rb + c) / 18446744073709551616) = va + P * ra + (vb + P * rb) := by
  have hdm := Int.emod_add_mul_ediv (ra + rb + c) 18446744073709551616
  have e : P * ((ra + rb + c) % 18446744073709551616) + P * 18446744073709551616 * ((ra + rb + c) / 18446744073709551616) = P * (ra + rb + c) := by
    rw [Int.mul_assoc, ← Int.mul_add, hdm]
  rw [Int.add_assoc, e, Int.mul_add, Int.mul_add]
  clear hdm e
  generalize P * ra = x, P * rb = y, P * c = z at *
  omega
theorem carry_ok (s : Int) (h0 : 0 ≤ s) (h1 : s < 36893488147419103232) : 0 ≤ s % 18446744073709551616 ∧ s % 18446744073709551616 < 18446744073709551616 ∧ 0 ≤ s / 18446744073709551616 ∧ s / 18446744073709551616 ≤ 1 := by omega
theorem step_sub (P vo va vb c x y : Int) (hv : vo - P * c = va - vb) : (y + c ≤ x → vo + P * (x - y - c) - P * 18446744073709551616 * 0 = va + P * x - (vb + P * y)) ∧ (x < y + c → vo + P * (x + 18446744073709551616 - y - c) - P * 18446744073709551616 * 1 = va + P * x - (vb + P * y)) := by
  constructor
  · intro _; rw [Int.mul_sub, Int.mul_sub, Int.mul_zero]; generalize P * x = a, P * y = b, P * c = d at *; omega
  · intro _; rw [Int.mul_sub, Int.mul_sub, Int.mul_add, Int.mul_one]; generalize P * x = a, P * y = b, P * c = d, P * 18446744073709551616 = e at *; omega
theorem Add_l0 (a b : List Int) (ha : lim a) (hb : lim b) (hab : b.length ≤ a.length) (hlen : a.length < 1000000) : ∀ (d i : Nat) (out : List Int) (c : Int), i + d = a.length → out.length = a.length + 1 → lim out → 0 ≤ c → c ≤ 1 →
    val (out.take i) + pw i * c = val (a.take i) + val (b.take i) → Ev (fun k => nat_Add.l0 k a b out c (a.length : Int) (i : Int)) (enc (val a + val b).toNat) := by
  intro d
  induction d with
  | zero =>
    intro i out c hi ho hl h0 h1 hv
    have hi' : i = a.length := by omega
    subst hi'
    have hl2 : lim (out.set a.length c) := lim_set hl _ h0 (by omega)
    have hcut := cut_ev (a.length + 1) (out.set a.length c) (by simpa using ho) hl2 (by omega)
    have e : val (out.set a.length c) = val a + val b := by
      have h2 := val_take_set out a.length c (by omega)
      rw [List.take_of_length_le (by simp; omega)] at h2
      rw [h2, hv, List.take_of_length_le (Nat.le_refl _), List.take_of_length_le hab]
    rw [e] at hcut
    refine Ev.step (f := fun k => (nat_cut.f k (out.set a.length c)).bind fun t => some t) (fun k => ?_) (Ev.bind hcut (Ev.now _))
    simp only [nat_Add.l0]
    rw [if_neg (by omega), if_pos (by omega), if_pos (by omega), Int.toNat_natCast]
  | succ d ih0 =>
    intro i out c hi ho hl h0 h1 hv
    have HV := Aside0.mk hv
    clear hv
    have b1 : i < a.length := by omega
    have b2 : i < out.length := by omega
    have b3 : (i : Int) < (a.length : Int) := by omega
    have b4 : (i : Int) < (out.length : Int) := by omega
    have b5 : i + 1 + d = a.length := by omega
    have b6 : (0 : Int) ≤ (i : Int) := by omega
    have hw : wrap64 ((i : Int) + 1) = ((i + 1 : Nat) : Int) := by rw [w64 (by omega) (by omega)]; omega
    have hai := rd_lim ha i b1
    by_cases hib : i < b.length
    · have b7 : (i : Int) < (b.length : Int) := by omega
      have hbi := rd_lim hb i hib
      have hc := carry_ok (rd a (i : Int) + rd b (i : Int) + c) (by omega) (by omega)
      have ih := ih0 (i + 1) (out.set i ((rd a (i : Int) + rd b (i : Int) + c) % 18446744073709551616)) ((rd a (i : Int) + rd b (i : Int) + c) / 18446744073709551616) b5 (by simpa using ho) (lim_set hl _ hc.1 hc.2.1) hc.2.2.1 hc.2.2.2 (by
        rw [val_take_set out i _ b2, val_take a i b1, val_take b i hib, pw_succ]
        exact step_add _ _ _ _ _ _ _ HV.out)
      refine Ev.step (fun k => ?_) ih
      simp only [nat_Add.l0]
      rw [if_pos b3, if_pos b7, if_pos b6, if_pos b3, if_pos hai.1, if_pos hbi.1, if_pos h0, if_pos h1, if_pos b4, Int.toNat_natCast, hw]
    · have b7 : ¬ (i : Int) < (b.length : Int) := by omega
      have htb : val (b.take (i + 1)) = val (b.take i) := by rw [List.take_of_length_le (by omega), List.take_of_length_le (by omega)]
      have hc := carry_ok (rd a (i : Int) + 0 + c) (by omega) (by omega)
      have hs := step_add (pw i) _ _ _ c (rd a (i : Int)) 0 HV.out
      rw [Int.mul_zero, Int.add_zero, Int.add_zero] at hs
      rw [Int.add_zero] at hc
      have ih := ih0 (i + 1) (out.set i ((rd a (i : Int) + c) % 18446744073709551616)) ((rd a (i : Int) + c) / 18446744073709551616) b5 (by simpa using ho) (lim_set hl _ hc.1 hc.2.1) hc.2.2.1 hc.2.2.2 (by
        rw [val_take_set out i _ b2, val_take a i b1, htb, pw_succ]
        exact hs)
      refine Ev.step (fun k => ?_) ih
      simp only [nat_Add.l0]
      rw [if_pos b3, if_neg b7, if_pos b6, if_pos b3, if_pos hai.1, if_pos h0, if_pos h1, if_pos b4, Int.toNat_natCast, hw]
theorem Add_l100 (a b : List Int) (ha : lim a) (hb : lim b) (hab : b.length ≤ a.length) (hlen : a.length < 1000000) : ∀ (d i : Nat) (out : List Int) (c : Int), i + d = a.length → out.length = a.length + 1 → lim out → 0 ≤ c → c ≤ 1 →
    val (out.take i) + pw i * c = val (a.take i) + val (b.take i) → Ev (fun k => nat_Add.l100 k a b out c (a.length : Int) (i : Int)) (enc (val a + val b).toNat) := by
  intro d
  induction d with
  | zero =>
    intro i out c hi ho hl h0 h1 hv
    have hi' : i = a.length := by omega
    subst hi'
    have hl2 : lim (out.set a.length c) := lim_set hl _ h0 (by omega)
    have hcut := cut_ev (a.length + 1) (out.set a.length c) (by simpa using ho) hl2 (by omega)
    have e : val (out.set a.length c) = val a + val b := by
      have h2 := val_take_set out a.length c (by omega)
      rw [List.take_of_length_le (by simp; omega)] at h2
      rw [h2, hv, List.take_of_length_le (Nat.le_refl _), List.take_of_length_le hab]
    rw [e] at hcut
    refine Ev.step (f := fun k => (nat_cut.f k (out.set a.length c)).bind fun t => some t) (fun k => ?_) (Ev.bind hcut (Ev.now _))
    simp only [nat_Add.l100]
    rw [if_neg (by omega), if_pos (by omega), if_pos (by omega), Int.toNat_natCast]
  | succ d ih0 =>
    intro i out c hi ho hl h0 h1 hv
    have HV := Aside0.mk hv
    clear hv
    have b1 : i < a.length := by omega
    have b2 : i < out.length := by omega
    have b3 : (i : Int) < (a.length : Int) := by omega
    have b4 : (i : Int) < (out.length : Int) := by omega
    have b5 : i + 1 + d = a.length := by omega
    have b6 : (0 : Int) ≤ (i : Int) := by omega
    have hw : wrap64 ((i : Int) + 1) = ((i + 1 : Nat) : Int) := by rw [w64 (by omega) (by omega)]; omega
    have hai := rd_lim ha i b1
    by_cases hib : i < b.length
    · have b7 : (i : Int) < (b.length : Int) := by omega
      have hbi := rd_lim hb i hib
      have hc := carry_ok (rd a (i : Int) + rd b (i : Int) + c) (by omega) (by omega)
      have ih := ih0 (i + 1) (out.set i ((rd a (i : Int) + rd b (i : Int) + c) % 18446744073709551616)) ((rd a (i : Int) + rd b (i : Int) + c) / 18446744073709551616) b5 (by simpa using ho) (lim_set hl _ hc.1 hc.2.1) hc.2.2.1 hc.2.2.2 (by
        rw [val_take_set out i _ b2, val_take a i b1, val_take b i hib, pw_succ]
        exact step_add _ _ _ _ _ _ _ HV.out)
      refine Ev.step (fun k => ?_) ih
      simp only [nat_Add.l100]
      rw [if_pos b3, if_pos b7, if_pos b6, if_pos b3, if_pos hai.1, if_pos hbi.1, if_pos h0, if_pos h1, if_pos b4, Int.toNat_natCast, hw]
    · have b7 : ¬ (i : Int) < (b.length : Int) := by omega
      have htb : val (b.take (i + 1)) = val (b.take i) := by rw [List.take_of_length_le (by omega), List.take_of_length_le (by omega)]
      have hc := carry_ok (rd a (i : Int) + 0 + c) (by omega) (by omega)
      have hs := step_add (pw i) _ _ _ c (rd a (i : Int)) 0 HV.out
      rw [Int.mul_zero, Int.add_zero, Int.add_zero] at hs
      rw [Int.add_zero] at hc
      have ih := ih0 (i + 1) (out.set i ((rd a (i : Int) + c) % 18446744073709551616)) ((rd a (i : Int) + c) / 18446744073709551616) b5 (by simpa using ho) (lim_set hl _ hc.1 hc.2.1) hc.2.2.1 hc.2.2.2 (by
        rw [val_take_set out i _ b2, val_take a i b1, htb, pw_succ]
        exact hs)
      refine Ev.step (fun k => ?_) ih
      simp only [nat_Add.l100]
      rw [if_pos b3, if_neg b7, if_pos b6, if_pos b3, if_pos hai.1, if_pos h0, if_pos h1, if_pos b4, Int.toNat_natCast, hw]
theorem Add_lists (a b : List Int) (ha : lim a) (hb : lim b) (h1 : a.length < 1000000) (h2 : b.length < 1000000) : Ev (fun k => nat_Add.f k a b) (enc (val a + val b).toNat) := by
  by_cases h : a.length < b.length
  · have hw : wrap64 ((b.length : Int) + 1) = ((b.length + 1 : Nat) : Int) := by rw [w64 (by omega) (by omega)]; omega
    have := Add_l0 b a hb ha (by omega) h2 b.length 0 (List.replicate (b.length + 1) 0) 0 (by omega) (by simp) (lim_zeros _) (by omega) (by omega) (by simp [val, pw_zero])
    rw [Int.add_comm] at this
    refine Ev.congr (fun k => ?_) this
    simp only [nat_Add.f]
    rw [if_pos (by omega), hw, if_pos (by omega), Int.toNat_natCast, if_pos (by omega)]
    rfl
  · have hw : wrap64 ((a.length : Int) + 1) = ((a.length + 1 : Nat) : Int) := by rw [w64 (by omega) (by omega)]; omega
    have := Add_l100 a b ha hb (by omega) h1 a.length 0 (List.replicate (a.length + 1) 0) 0 (by omega) (by simp) (lim_zeros _) (by omega) (by omega) (by simp [val, pw_zero])
    refine Ev.congr (fun k => ?_) this
    simp only [nat_Add.f]
    rw [if_neg (by omega), hw, if_pos (by omega), Int.toNat_natCast, if_pos (by omega)]
    rfl
def sm (n : Nat) : Prop := (enc n).length < 1000000
theorem sm_of {n : Nat} (L : Nat) (h : n < 18446744073709551616 ^ L) (hL : L < 1000000) : sm n := by
  have := enc_len_le L n h; unfold sm; omega
theorem sm_le {m n : Nat} (h : m ≤ n) (hn : sm n) : sm m := by
  have h1 := len_enc_lt n
  have := enc_len_le (enc n).length m (by omega)
  unfold sm at *; omega
theorem Add_ev (m n : Nat) (hm : sm m) (hn : sm n) : Ev (fun k => nat_Add.f k (enc m) (enc n)) (enc (m + n)) := by
  have := Add_lists (enc m) (enc n) (lim_enc m) (lim_enc n) hm hn
  rw [val_enc, val_enc, show ((m : Int) + (n : Int)).toNat = m + n by omega] at this
  exact this
theorem Sub_l0 (a b : List Int) (ha : lim a) (hb : lim b) (hle : val b ≤ val a) (hab : b.length ≤ a.length) (hlen : a.length < 1000000) : ∀ (d i : Nat) (out : List Int) (c : Int), i + d = a.length → out.length = a.length → lim out → 0 ≤ c → c ≤ 1 →
    val (out.take i) - pw i * c = val (a.take i) - val (b.take i) → Ev (fun k => nat_Sub.l0 k a b out c (a.length : Int) (i : Int)) (enc (val a - val b).toNat) := by
  intro d
  induction d with
  | zero =>
    intro i out c hi ho hl h0 h1 hv
    have hi' : i = a.length := by omega
    subst hi'
    rw [List.take_of_length_le (by omega), List.take_of_length_le (by omega), List.take_of_length_le hab] at hv
    have hc : c = 0 := by
      have h3 := val_lt hl
      rw [ho] at h3
      rcases (by omega : c = 0 ∨ c = 1) with e | e
      · exact e
      · rw [e, Int.mul_one] at hv; omega
    rw [hc, Int.mul_zero] at hv
    have hcut := cut_ev a.length out ho hl (by omega)
    rw [show val out = val a - val b by omega] at hcut
    refine Ev.step (f := fun k => (nat_cut.f k out).bind fun t => some t) (fun k => ?_) (Ev.bind hcut (Ev.now _))
    simp only [nat_Sub.l0]
    rw [if_neg (by omega)]
  | succ d ih0 =>
    intro i out c hi ho hl h0 h1 hv
    have HV := Aside0.mk hv
    clear hv
    have b1 : i < a.length := by omega
    have b2 : i < out.length := by omega
    have b3 : (i : Int) < (a.length : Int) := by omega
    have b4 : (i : Int) < (out.length : Int) := by omega
    have b5 : i + 1 + d = a.length := by omega
    have b6 : (0 : Int) ≤ (i : Int) := by omega
    have hw : wrap64 ((i : Int) + 1) = ((i + 1 : Nat) : Int) := by rw [w64 (by omega) (by omega)]; omega
    have hai := rd_lim ha i b1
    have key : ∀ y : Int, 0 ≤ y → y < 18446744073709551616 → val (b.take (i + 1)) = val (b.take i) + pw i * y →
        0 ≤ brw (rd a (i : Int)) y c ∧ brw (rd a (i : Int)) y c ≤ 1 ∧ 0 ≤ (rd a (i : Int) + 18446744073709551616 - y - c) % 18446744073709551616 ∧ (rd a (i : Int) + 18446744073709551616 - y - c) % 18446744073709551616 < 18446744073709551616 ∧
        val ((out.set i ((rd a (i : Int) + 18446744073709551616 - y - c) % 18446744073709551616)).take (i + 1)) - pw (i + 1) * brw (rd a (i : Int)) y c = val (a.take (i + 1)) - val (b.take (i + 1)) := by
      intro y hy0 hy1 htb
      have hst := step_sub _ _ _ _ c (rd a (i : Int)) y HV.out
      rw [val_take_set out i _ b2, val_take a i b1, htb, pw_succ]
      clear htb
      by_cases h : rd a (i : Int) < y + c
      · have e : brw (rd a (i : Int)) y c = 1 := by unfold brw; rw [if_pos h]
        have e2 : (rd a (i : Int) + 18446744073709551616 - y - c) % 18446744073709551616 = rd a (i : Int) + 18446744073709551616 - y - c := by clear hst; omega
        rw [e, e2]
        exact ⟨by decide, by decide, by clear hst; omega, by clear hst; omega, hst.2 h⟩
      · have e : brw (rd a (i : Int)) y c = 0 := by unfold brw; rw [if_neg h]
        have e2 : (rd a (i : Int) + 18446744073709551616 - y - c) % 18446744073709551616 = rd a (i : Int) - y - c := by clear hst; omega
        rw [e, e2]
        exact ⟨by decide, by decide, by clear hst; omega, by clear hst; omega, hst.1 (by clear hst; omega)⟩
    by_cases hib : i < b.length
    · have b7 : (i : Int) < (b.length : Int) := by omega
      have hbi := rd_lim hb i hib
      obtain ⟨k0, k1, k2, k3, kv⟩ := key _ hbi.1 hbi.2 (val_take b i hib)
      have ih := ih0 (i + 1) _ _ b5 (by simpa using ho) (lim_set hl i k2 k3) k0 k1 kv
      refine Ev.step (fun k => ?_) ih
      simp only [nat_Sub.l0]
      rw [if_pos b3, if_pos b7, if_pos b6, if_pos b3, if_pos hai.1, if_pos hbi.1, if_pos h0, if_pos h1, if_pos hbi.2, if_pos b4, Int.toNat_natCast, hw]
    · have b7 : ¬ (i : Int) < (b.length : Int) := by omega
      obtain ⟨k0, k1, k2, k3, kv⟩ := key 0 (by decide) (by decide) (by rw [List.take_of_length_le (by omega), List.take_of_length_le (by omega), Int.mul_zero, Int.add_zero])
      have ih := ih0 (i + 1) _ _ b5 (by simpa using ho) (lim_set hl i k2 k3) k0 k1 kv
      rw [Int.sub_zero] at ih
      refine Ev.step (fun k => ?_) ih
      simp only [nat_Sub.l0]
      rw [if_pos b3, if_neg b7, if_pos b6, if_pos b3, if_pos hai.1, if_pos h0, if_pos h1, if_pos b4, Int.toNat_natCast, hw]
theorem enc_len_mono {m n : Nat} (h : m ≤ n) : (enc m).length ≤ (enc n).length := enc_len_le _ _ (by have := len_enc_lt n; omega)
theorem Sub_ev (m n : Nat) (h : n ≤ m) (hm : sm m) : Ev (fun k => nat_Sub.f k (enc m) (enc n)) (enc (m - n)) := by
  have hl := enc_len_mono h
  have hm' : (enc m).length < 1000000 := hm
  have := Sub_l0 (enc m) (enc n) (lim_enc m) (lim_enc n) (by rw [val_enc, val_enc]; omega) hl hm (enc m).length 0 (List.replicate (enc m).length 0) 0 (by omega) (by simp) (lim_zeros _) (by omega) (by omega) (by simp [val, pw_zero])
  rw [val_enc, val_enc, show ((m : Int) - (n : Int)).toNat = m - n by omega] at this
  refine Ev.congr (fun k => ?_) this
  simp only [nat_Sub.f]
  rw [if_pos (by omega), Int.toNat_natCast, if_pos (by omega)]
  rfl
theorem Cmp_l0 (a b : List Int) (ha : lim a) (hb : lim b) (hab : a.length = b.length) (hlen : a.length < 1000000) : ∀ (i : Nat), i ≤ a.length → val (a.drop i) = val (b.drop i) →
    Ev (fun k => nat_Cmp.l0 k a b ((i : Int) - 1)) (if val a < val b then -1 else if val a = val b then 0 else 1) := by
  intro i
  induction i with
  | zero =>
    intro _ hv
    simp only [List.drop_zero] at hv
    rw [if_neg (by omega), if_pos hv]
    refine Ev.step (f := fun _ => some 0) (fun k => ?_) (Ev.now _)
    simp only [nat_Cmp.l0]
    rw [if_neg (by omega)]
  | succ i ih0 =>
    intro hi hv
    have hai := rd_lim ha i (by omega)
    have hbi := rd_lim hb i (by omega)
    have e1 : (((i + 1 : Nat) : Int) - 1) = (i : Int) := by omega
    have hw : wrap64 ((i : Int) - 1) = (i : Int) - 1 := w64 (by omega) (by omega)
    have hda : val a = val (a.take i) + pw i * (rd a (i : Int) + 18446744073709551616 * val (a.drop (i + 1))) := by
      have := val_append (a.take i) (a.drop i)
      rw [List.take_append_drop, List.length_take, Nat.min_eq_left (by omega), List.drop_eq_getElem_cons (by omega), val, ← rd_nat a i (by omega)] at this
      exact this
    have hdb : val b = val (b.take i) + pw i * (rd b (i : Int) + 18446744073709551616 * val (b.drop (i + 1))) := by
      have := val_append (b.take i) (b.drop i)
      rw [List.take_append_drop, List.length_take, Nat.min_eq_left (by omega), List.drop_eq_getElem_cons (by omega), val, ← rd_nat b i (by omega)] at this
      exact this
    have hla := val_lt (lim_take ha i)
    have hlb := val_lt (lim_take hb i)
    have hna := val_nonneg (lim_take ha i)
    have hnb := val_nonneg (lim_take hb i)
    rw [List.length_take, Nat.min_eq_left (by omega)] at hla hlb
    have less : ∀ (x y p q t P : Int), 0 ≤ p → p < P → 0 ≤ q → q < P → x < y → p + P * (x + t) < q + P * (y + t) := by
      intro x y p q t P hp0 hp hq0 hq hxy
      have h1 : P * (x + t) + P ≤ P * (y + t) := by
        have : P * (x + t) + P = P * (x + t + 1) := by rw [Int.mul_add P (x + t) 1, Int.mul_one]
        rw [this]
        exact Int.mul_le_mul_of_nonneg_left (by omega) (by omega)
      omega
    by_cases hlt : rd a (i : Int) < rd b (i : Int)
    · have := less _ _ _ _ (18446744073709551616 * val (a.drop (i + 1))) _ hna hla hnb hlb hlt
      rw [hv] at hda this
      rw [if_pos (by omega)]
      refine Ev.step (f := fun _ => some (-1)) (fun k => ?_) (Ev.now _)
      simp only [nat_Cmp.l0, e1]
      rw [if_pos (by omega), if_pos (by omega), if_pos (by omega), if_pos (by omega), if_pos hlt]
    · by_cases hgt : rd a (i : Int) > rd b (i : Int)
      · have := less _ _ _ _ (18446744073709551616 * val (b.drop (i + 1))) _ hnb hlb hna hla hgt
        rw [hv] at hda
        rw [if_neg (by omega), if_neg (by omega)]
        refine Ev.step (f := fun _ => some 1) (fun k => ?_) (Ev.now _)
        simp only [nat_Cmp.l0, e1]
        rw [if_pos (by omega), if_pos (by omega), if_pos (by omega), if_pos (by omega), if_neg hlt, if_pos hgt]
      · have ih := ih0 (by omega) (by
          rw [List.drop_eq_getElem_cons (by omega : i < a.length), List.drop_eq_getElem_cons (by omega : i < b.length), val, val, ← rd_nat a i (by omega), ← rd_nat b i (by omega), hv]
          omega)
        refine Ev.step (fun k => ?_) ih
        simp only [nat_Cmp.l0, e1]
        rw [if_pos (by omega), if_pos (by omega), if_pos (by omega), if_pos (by omega), if_neg hlt, if_neg hgt, hw]
theorem Cmp_ev (m n : Nat) (hm : sm m) (hn : sm n) : Ev (fun k => nat_Cmp.f k (enc m) (enc n)) (if m < n then -1 else if m = n then 0 else 1) := by
  have hm' : (enc m).length < 1000000 := hm
  have hn' : (enc n).length < 1000000 := hn
  by_cases h : (enc m).length = (enc n).length
  · have := Cmp_l0 (enc m) (enc n) (lim_enc m) (lim_enc n) h hm (enc m).length (Nat.le_refl _) (by rw [List.drop_of_length_le (Nat.le_refl _), List.drop_of_length_le (by omega)])
    rw [val_enc, val_enc] at this
    simp only [Int.ofNat_lt, Int.ofNat_inj] at this
    refine Ev.congr (fun k => ?_) this
    simp only [nat_Cmp.f]
    rw [if_pos (by omega), w64 (by omega) (by omega)]
  · by_cases h2 : (enc m).length < (enc n).length
    · have h3 := enc_len_ge _ _ h2
      have h4 := len_enc_lt m
      rw [if_pos (by omega)]
      refine Ev.congr (fun k => ?_) (Ev.now _)
      simp only [nat_Cmp.f]
      rw [if_neg (by omega), if_pos (by omega)]
    · have h3 := enc_len_ge _ _ (show (enc n).length < (enc m).length by omega)
      have h4 := len_enc_lt n
      rw [if_neg (by omega), if_neg (by omega)]
      refine Ev.congr (fun k => ?_) (Ev.now _)
      simp only [nat_Cmp.f]
      rw [if_neg (by omega), if_neg (by omega)]
theorem Int_eq (n : Nat) : nat_Nat_Int.f (enc n) = some (if n < 9223372036854775808 then ((n : Int), true) else (0, false)) := by
  unfold nat_Nat_Int.f
  by_cases h0 : n = 0
  · subst h0; rw [enc_zero, if_pos (by simp)]; rfl
  · by_cases h1 : n < 18446744073709551616
    · rw [enc_one h0 h1, if_neg (by simp), if_neg (by simp), if_pos (by simp)]
      have e : rd [(n : Int)] 0 = n := by simp [rd]
      rw [e]
      by_cases h2 : n < 9223372036854775808
      · rw [if_neg (by omega), w64 (by omega) (by omega), if_pos h2]
      · rw [if_pos (by omega), if_neg h2]
    · have h3 : 1 < (enc n).length := by
        rw [enc_pos h0, List.length_cons]
        have : (enc (n / 18446744073709551616)) ≠ [] := by rw [Ne, enc_nil_iff]; omega
        have := List.length_pos_iff.2 this
        omega
      rw [if_neg (by omega), if_pos (by omega), if_neg (by omega)]
end Go.Proofs.Ytjfldeoddjicoaa.QLoadCountAddsUp
