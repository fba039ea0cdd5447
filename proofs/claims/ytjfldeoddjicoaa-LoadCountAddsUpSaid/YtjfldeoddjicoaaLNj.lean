/- Package nat: the division by a word, the digit's guess, and what is taken away and given back for it. -/
import Derived.Test.YtjfldeoddjicoaaLNi
namespace Go.Proofs.Ytjfldeoddjicoaa.QLoadCountAddsUp
open Go.RowKit Go.Proofs.YtjfldeoddjicoaaW.PrintWords Go.Proofs.YtjfldeoddjicoaaW.PrintLast Go.Proofs.YtjfldeoddjicoaaW.PrintMore
set_option linter.unusedVariables false
set_option linter.unusedSimpArgs false
theorem w64s (i : Nat) (h : i < 9000000) : wrap64 ((i : Int) + 1) = ((i + 1 : Nat) : Int) := by rw [w64 (by omega) (by omega)]; omega
theorem w64a (i j : Nat) (h : i + j < 9000000) : wrap64 ((i : Int) + (j : Int)) = ((i + j : Nat) : Int) := by rw [w64 (by omega) (by omega)]; omega
theorem w64d (i j : Nat) (hj : j ≤ i) (h : i < 9000000) : wrap64 ((i : Int) - (j : Int)) = ((i - j : Nat) : Int) := by rw [w64 (by omega) (by omega)]; omega
theorem w64p (i : Nat) (h : i < 9000000) : wrap64 ((i : Int) - 1) = (i : Int) - 1 := w64 (by omega) (by omega)
theorem val_drop (xs : List Int) (i : Nat) (h : i < xs.length) : val (xs.drop i) = rd xs (i : Int) + 18446744073709551616 * val (xs.drop (i + 1)) := by
  rw [List.drop_eq_getElem_cons h, val, ← rd_nat xs i h]
theorem drop_set (xs : List Int) (i j : Nat) (v : Int) (h : i < j) : (xs.set i v).drop j = xs.drop j := by
  rw [List.drop_set, if_pos h]
theorem rd_set_self (xs : List Int) (i : Nat) (v : Int) (h : i < xs.length) : rd (xs.set i v) (i : Int) = v := by
  rw [rd_nat _ i (by simpa using h)]; simp
theorem step_small (b x r V A O : Int) (hb : 0 < b) (hv : A = b * O + r) : x + 18446744073709551616 * A = b * ((r * 18446744073709551616 + x) / b + 18446744073709551616 * O) + (r * 18446744073709551616 + x) % b := by
  have h := Int.mul_ediv_add_emod (r * 18446744073709551616 + x) b
  have e1 : b * (18446744073709551616 * O) = 18446744073709551616 * (b * O) := by grind
  rw [hv, Int.mul_add b, e1]
  generalize b * O = X at *
  generalize b * ((r * 18446744073709551616 + x) / b) = Y at *
  generalize (r * 18446744073709551616 + x) % b = Z at *
  omega
theorem digit_ok (b r x : Int) (hb0 : 0 < b) (h0 : 0 ≤ r) (h1 : r < b) (hx : 0 ≤ x ∧ x < 18446744073709551616) :
    0 ≤ (r * 18446744073709551616 + x) / b ∧ (r * 18446744073709551616 + x) / b < 18446744073709551616 ∧ 0 ≤ (r * 18446744073709551616 + x) % b ∧ (r * 18446744073709551616 + x) % b < b :=
  ⟨Int.ediv_nonneg (by omega) (by omega), Int.ediv_lt_of_lt_mul hb0 (by omega), Int.emod_nonneg _ (by omega), Int.emod_lt_of_pos _ hb0⟩
theorem take_ok (p c : Int) (hp : 0 ≤ p ∧ p ≤ 340282366920938463426481119284349108225) (hc : 0 ≤ c ∧ c < 18446744073709551616) :
    0 ≤ p % 18446744073709551616 ∧ 0 ≤ (p % 18446744073709551616 + c) % 18446744073709551616 ∧ (p % 18446744073709551616 + c) % 18446744073709551616 < 18446744073709551616 ∧
    0 ≤ p / 18446744073709551616 + (p % 18446744073709551616 + c) / 18446744073709551616 ∧ p / 18446744073709551616 + (p % 18446744073709551616 + c) / 18446744073709551616 < 18446744073709551616 ∧
    (p % 18446744073709551616 + c) % 18446744073709551616 + 18446744073709551616 * (p / 18446744073709551616 + (p % 18446744073709551616 + c) / 18446744073709551616) = p + c := by omega
theorem small_l0 (a : List Int) (b : Int) (ha : lim a) (hb0 : 0 < b) (hb : b < 18446744073709551616) (hlen : a.length < 1000000) : ∀ (i : Nat) (out : List Int) (r : Int), i ≤ a.length → out.length = a.length → lim out → 0 ≤ r → r < b →
    val (a.drop i) = b * val (out.drop i) + r → Ev (fun k => nat_small.l0 k a b out r ((i : Int) - 1)) (enc (val a / b).toNat, val a % b) := by
  intro i
  induction i with
  | zero =>
    intro out r _ ho hl h0 h1 hv
    simp only [List.drop_zero] at hv
    have hq : val a / b = val out := by
      rw [hv, Int.mul_add_ediv_left _ _ (by omega), Int.ediv_eq_zero_of_lt h0 h1, Int.add_zero]
    have hm : val a % b = r := by rw [hv, Int.mul_add_emod_self_left, Int.emod_eq_of_lt h0 h1]
    have hcut := cut_ev a.length out ho hl (by omega)
    rw [← hq] at hcut
    rw [hm]
    refine Ev.step (f := fun k => (nat_cut.f k out).bind fun t => some (t, r)) (fun k => ?_) (Ev.bind hcut (Ev.now _))
    simp only [nat_small.l0]
    rw [if_neg (by omega)]
  | succ i ih0 =>
    intro out r hi ho hl h0 h1 hv
    have HV := Aside0.mk hv
    clear hv
    have b1 : i < a.length := by omega
    have b2 : i < out.length := by omega
    have hai := rd_lim ha i b1
    have e1 : (((i + 1 : Nat) : Int) - 1) = (i : Int) := by omega
    have hw : wrap64 ((i : Int) - 1) = (i : Int) - 1 := w64 (by omega) (by omega)
    have c1 : (i : Int) ≥ 0 := by omega
    have c2 : (i : Int) < (a.length : Int) := by omega
    have c3 : (i : Int) < (out.length : Int) := by omega
    have c5 : i ≤ a.length := by omega
    have hd := Div64_int h0 h1 hb hai.1 hai.2
    obtain ⟨hq0, hq1, hr0, hr1⟩ := digit_ok b r _ hb0 h0 h1 hai
    have ih := ih0 (out.set i ((r * 18446744073709551616 + rd a (i : Int)) / b)) _ c5 (by simpa using ho) (lim_set hl i hq0 hq1) hr0 hr1 (by
      rw [val_drop a i b1, val_drop _ i (by simpa using b2), rd_set_self _ i _ b2, drop_set _ _ _ _ (Nat.lt_succ_self i)]
      exact step_small b _ r 0 _ _ hb0 HV.out)
    refine Ev.step (f := fun k => (bits_Div64.f k r (rd a (i : Int)) b).bind fun t => nat_small.l0 k a b (out.set i t.1) t.2 ((i : Int) - 1)) (fun k => ?_) (Ev.bind hd ih)
    simp only [nat_small.l0, e1]
    rw [if_pos c1, if_pos c1, if_pos c2]
    simp only [if_pos c3, Int.toNat_natCast, hw]
theorem small_ev (m b : Nat) (hb0 : 0 < b) (hb : b < 18446744073709551616) (hm : sm m) : Ev (fun k => nat_small.f k (enc m) (b : Int)) (enc (m / b), ((m % b : Nat) : Int)) := by
  have hm' : (enc m).length < 1000000 := hm
  have h := small_l0 (enc m) (b : Int) (lim_enc m) (by omega) (by omega) hm (enc m).length (List.replicate (enc m).length 0) 0 (Nat.le_refl _) (by simp) (lim_zeros _) (by omega) (by omega) (by
    rw [List.drop_of_length_le (Nat.le_refl _), List.drop_of_length_le (by simp)]; simp [val])
  rw [val_enc, ← Int.natCast_ediv, ← Int.natCast_emod, Int.toNat_natCast] at h
  refine Ev.congr (fun k => ?_) h
  simp only [nat_small.f]
  rw [if_pos (by omega), if_pos (by rw [Int.toNat_natCast]; omega), Int.toNat_natCast, w64 (by omega) (by omega)]
theorem val_split (xs : List Int) (i : Nat) (h : i ≤ xs.length) : val xs = val (xs.take i) + pw i * val (xs.drop i) := by
  have := val_append (xs.take i) (xs.drop i)
  rw [List.take_append_drop, List.length_take, Nat.min_eq_left h] at this
  exact this
theorem step_take (V P c bo X q e x v bo' lo c' : Int) (hv : V - P * (c + bo) = X) (h1 : v = x - lo - bo + 18446744073709551616 * bo') (h2 : lo + 18446744073709551616 * c' = q * e + c) :
    V + P * (v - x) - P * 18446744073709551616 * (c' + bo') = X - P * (q * e) := by
  have h3 : q * e = lo + 18446744073709551616 * c' - c := by omega
  rw [h1, h3, ← hv]
  grind
theorem borrow_ok (x y c : Int) (hx : 0 ≤ x ∧ x < 18446744073709551616) (hy : 0 ≤ y ∧ y < 18446744073709551616) (hc : 0 ≤ c ∧ c ≤ 1) :
    0 ≤ brw x y c ∧ brw x y c ≤ 1 ∧ 0 ≤ (x + 18446744073709551616 - y - c) % 18446744073709551616 ∧ (x + 18446744073709551616 - y - c) % 18446744073709551616 < 18446744073709551616 ∧
    (x + 18446744073709551616 - y - c) % 18446744073709551616 = x - y - c + 18446744073709551616 * brw x y c := by
  unfold brw
  by_cases h : x < y + c
  · rw [if_pos h]; omega
  · rw [if_neg h]; omega
theorem ring_take (X P Pi q V R : Int) : X - P * (q * V) - Pi * P * (q * R) = X - P * (q * (V + Pi * R)) := by grind
theorem take_l0 (d : List Int) (hd : lim d) (j : Nat) (q X : Int) (hq : 0 ≤ q ∧ q < 18446744073709551616) (hlen : j + d.length < 1000000) : ∀ (m i : Nat) (x : List Int) (c bo : Int), i + m = d.length → j + d.length < x.length → x.length < 2000000 → lim x → 0 ≤ c ∧ c < 18446744073709551616 → 0 ≤ bo ∧ bo ≤ 1 →
    val x - pw (i + j) * (c + bo) = X - pw j * (q * val (d.take i)) →
    ∃ (b' : Int) (x' : List Int), Ev (fun k => nat_take.l0 k x d (j : Int) q c bo (d.length : Int) (i : Int)) (decide (b' > 0), x') ∧ 0 ≤ b' ∧ b' ≤ 1 ∧ x'.length = x.length ∧ lim x' ∧ x'.drop (j + d.length + 1) = x.drop (j + d.length + 1) ∧
      val x' - pw (j + d.length + 1) * b' = X - pw j * (q * val d) := by
  intro m
  induction m with
  | zero =>
    intro i x c bo hi hx hx2 hl hc hbo hv
    have hi' : i = d.length := by omega
    subst hi'
    rw [List.take_of_length_le (Nat.le_refl _)] at hv
    have HV := Aside0.mk hv
    clear hv
    have b1 : j + d.length < x.length := hx
    have hw : wrap64 ((j : Int) + (d.length : Int)) = ((j + d.length : Nat) : Int) := by rw [w64 (by omega) (by omega)]; omega
    have c1 : ¬ (d.length : Int) < (d.length : Int) := by omega
    have c2 : (0 : Int) ≤ ((j + d.length : Nat) : Int) := by omega
    have c3 : ((j + d.length : Nat) : Int) < (x.length : Int) := by omega
    have c4 : j + d.length < j + d.length + 1 := by omega
    have hxi := rd_lim hl (j + d.length) b1
    obtain ⟨k0, k1, k2, k3, k4⟩ := borrow_ok (rd x ((j + d.length : Nat) : Int)) c bo hxi hc hbo
    refine ⟨brw (rd x ((j + d.length : Nat) : Int)) c bo, x.set (j + d.length) _, ?_, k0, k1, List.length_set, lim_set hl _ k2 k3, drop_set _ _ _ _ c4, ?_⟩
    · refine Ev.step (f := fun _ => some _) (fun k => ?_) (Ev.now _)
      simp only [nat_take.l0]
      rw [if_neg c1, hw, if_pos c2, if_pos c3, if_pos hxi.1, if_pos hc.1, if_pos hbo.1, if_pos hbo.2, if_pos hc.2, Int.toNat_natCast]
    · have hv := HV.out
      rw [val_set x _ _ b1, k4, pw_succ]
      rw [Nat.add_comm d.length j] at hv
      generalize rd x ((j + d.length : Nat) : Int) = R
      generalize brw R c bo = B
      rw [← hv]
      grind
  | succ m ih0 =>
    intro i x c bo hi hx hx2 hl hc hbo hv
    have HV := Aside0.mk hv
    clear hv
    have b1 : i < d.length := by omega
    have b2 : i + j < x.length := by omega
    have hdi := rd_lim hd i b1
    have hxi := rd_lim hl (i + j) b2
    have c1 : (i : Int) < (d.length : Int) := by omega
    have c2 : (0 : Int) ≤ (i : Int) := by omega
    have c3 : (0 : Int) ≤ ((i + j : Nat) : Int) := by omega
    have c4 : ((i + j : Nat) : Int) < (x.length : Int) := by omega
    have c5 : i + 1 + m = d.length := by omega
    have c6 : i + j < j + d.length + 1 := by omega
    have c7 : i + 1 + j = i + j + 1 := by omega
    have c8 : i + j < 9000000 := by omega
    have c9 : i < 9000000 := by omega
    have hw := w64a i j c8
    have hw2 := w64s i c9
    have hm := Mul64_eq hq hdi
    obtain ⟨hlo, hc2, hc3, hcc0, hcc1, hsum⟩ := take_ok _ c (mul_le_max hq hdi) hc
    have hwc := u64w hcc0 hcc1
    obtain ⟨k0, k1, k2, k3, k4⟩ := borrow_ok (rd x ((i + j : Nat) : Int)) _ bo hxi ⟨hc2, hc3⟩ hbo
    obtain ⟨b', x', e1, e2, e3, e4, e5, e6, e7⟩ := ih0 (i + 1) (x.set (i + j) _) _ _ c5 (by simpa using hx) (by simpa using hx2) (lim_set hl _ k2 k3) ⟨hcc0, hcc1⟩ ⟨k0, k1⟩ (by
      rw [val_set x _ _ b2, val_take d i b1, c7, pw_succ]
      rw [step_take _ _ _ _ _ q (rd d (i : Int)) _ _ _ _ _ HV.out k4 hsum, pw_add]
      exact ring_take _ _ _ _ _ _)
    refine ⟨b', x', ?_, e2, e3, by rw [e4]; simp, e5, by rw [e6]; exact drop_set _ _ _ _ c6, e7⟩
    refine Ev.step (fun k => ?_) e1
    simp only [nat_take.l0]
    rw [if_pos c1, if_pos c2, if_pos c1, hm, Option.bind_some]
    simp only []
    rw [if_pos hlo, if_pos hc.1, hw, if_pos c3, if_pos c4, if_pos hxi.1, if_pos hbo.1, if_pos hbo.2, Int.toNat_natCast, hwc, hw2]
end Go.Proofs.Ytjfldeoddjicoaa.QLoadCountAddsUp
