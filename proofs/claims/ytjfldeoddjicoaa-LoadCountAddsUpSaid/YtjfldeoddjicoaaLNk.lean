/- Package nat: one digit of the long division: its guess is not too small, and what is taken and given back is right. -/
import Derived.Test.YtjfldeoddjicoaaLNj
namespace Go.Proofs.Ytjfldeoddjicoaa.QLoadCountAddsUp
open Go.RowKit Go.Proofs.YtjfldeoddjicoaaW.PrintWords Go.Proofs.YtjfldeoddjicoaaW.PrintLast Go.Proofs.YtjfldeoddjicoaaW.PrintMore
set_option linter.unusedVariables false
set_option linter.unusedSimpArgs false
theorem top_zero {xs : List Int} (hl : lim xs) (i : Nat) (hi : i ≤ xs.length) (h : val xs < pw i) : val (xs.drop i) = 0 := by
  have h1 := val_split xs i hi
  have h2 := val_nonneg (lim_take hl i)
  have h3 : lim (xs.drop i) := fun x hx => hl x (List.mem_of_mem_drop hx)
  have h4 := val_nonneg h3
  rcases (by omega : val (xs.drop i) = 0 ∨ 1 ≤ val (xs.drop i)) with h5 | h5
  · exact h5
  · have := Int.mul_le_mul_of_nonneg_left h5 (show 0 ≤ pw i from Int.le_of_lt (pw_pos i))
    rw [Int.mul_one] at this
    omega
theorem low_lt {xs : List Int} (hl : lim xs) (i : Nat) (hi : i ≤ xs.length) (h : val (xs.drop i) = 0) : val xs < pw i := by
  have h1 := val_split xs i hi
  have h2 := val_lt (lim_take hl i)
  rw [List.length_take, Nat.min_eq_left hi] at h2
  rw [h, Int.mul_zero] at h1
  omega
theorem take_ev (d : List Int) (hd : lim d) (j : Nat) (q : Int) (hq : 0 ≤ q ∧ q < 18446744073709551616) (hlen : j + d.length < 1000000) (x : List Int) (hx : j + d.length < x.length) (hx2 : x.length < 2000000) (hl : lim x)
    (hX : val x < pw (j + d.length + 1)) : ∃ x' : List Int, Ev (fun k => nat_take.f k x d (j : Int) q) (decide (val x < pw j * (q * val d)), x') ∧ x'.length = x.length ∧ lim x' ∧ val x' < pw (j + d.length + 1) ∧
      val x' = val x - pw j * (q * val d) + (if val x < pw j * (q * val d) then pw (j + d.length + 1) else 0) := by
  obtain ⟨b, x', h1, h2, h3, h4, h5, h6, h7⟩ := take_l0 d hd j q (val x) hq hlen d.length 0 x 0 0 (by omega) hx hx2 hl (by omega) (by omega) (by simp [val])
  have hz := top_zero hl (j + d.length + 1) (by omega) hX
  rw [← h6] at hz
  have hlt := low_lt h5 (j + d.length + 1) (by omega) hz
  have h0 := val_nonneg h5
  have hp := pw_pos (j + d.length + 1)
  rcases (by omega : b = 0 ∨ b = 1) with e | e
  · subst e
    rw [Int.mul_zero] at h7
    have hn : ¬ val x < pw j * (q * val d) := by omega
    refine ⟨x', ?_, h4, h5, hlt, by rw [if_neg hn]; omega⟩
    rw [decide_eq_false hn]
    exact Ev.congr (fun k => rfl) h1
  · subst e
    rw [Int.mul_one] at h7
    have hn : val x < pw j * (q * val d) := by omega
    refine ⟨x', ?_, h4, h5, hlt, by rw [if_pos hn]; omega⟩
    rw [decide_eq_true hn]
    exact Ev.congr (fun k => rfl) h1
theorem step_give (V P c X x e v c' : Int) (hv : V + P * c = X) (h1 : v + 18446744073709551616 * c' = x + e + c) : V + P * (v - x) + P * 18446744073709551616 * c' = X + P * e := by
  have h3 : v = x + e + c - 18446744073709551616 * c' := by omega
  rw [h3, ← hv]
  grind
theorem ring_give (X P Pi V R : Int) : X + P * V + Pi * P * R = X + P * (V + Pi * R) := by grind
theorem give_ok (s : Int) (h0 : 0 ≤ s) (h1 : s < 36893488147419103232) : 0 ≤ s % 18446744073709551616 ∧ s % 18446744073709551616 < 18446744073709551616 ∧ 0 ≤ s / 18446744073709551616 ∧ s / 18446744073709551616 ≤ 1 ∧ s % 18446744073709551616 + 18446744073709551616 * (s / 18446744073709551616) = s := by omega
theorem give_l0 (d : List Int) (hd : lim d) (j : Nat) (X : Int) (hlen : j + d.length < 1000000) : ∀ (m i : Nat) (x : List Int) (c : Int), i + m = d.length → j + d.length < x.length → x.length < 2000000 → lim x → 0 ≤ c ∧ c ≤ 1 →
    val x + pw (i + j) * c = X + pw j * val (d.take i) →
    ∃ (b' : Int) (x' : List Int), Ev (fun k => nat_give.l0 k x d (j : Int) c (d.length : Int) (i : Int)) (decide (b' > 0), x') ∧ 0 ≤ b' ∧ b' ≤ 1 ∧ x'.length = x.length ∧ lim x' ∧ x'.drop (j + d.length + 1) = x.drop (j + d.length + 1) ∧
      val x' + pw (j + d.length + 1) * b' = X + pw j * val d := by
  intro m
  induction m with
  | zero =>
    intro i x c hi hx hx2 hl hc hv
    have hi' : i = d.length := by omega
    subst hi'
    rw [List.take_of_length_le (Nat.le_refl _), Nat.add_comm d.length j] at hv
    have HV := Aside0.mk hv
    clear hv
    have b1 : j + d.length < x.length := hx
    have c1 : ¬ (d.length : Int) < (d.length : Int) := by omega
    have c2 : (0 : Int) ≤ ((j + d.length : Nat) : Int) := by omega
    have c3 : ((j + d.length : Nat) : Int) < (x.length : Int) := by omega
    have c4 : j + d.length < j + d.length + 1 := by omega
    have c5 : j + d.length < 9000000 := by omega
    have hxi := rd_lim hl (j + d.length) b1
    obtain ⟨k0, k1, k2, k3, k4⟩ := give_ok (rd x ((j + d.length : Nat) : Int) + c) (by omega) (by omega)
    have hw := w64a j d.length c5
    refine ⟨_, x.set (j + d.length) _, ?_, k2, k3, List.length_set, lim_set hl _ k0 k1, drop_set _ _ _ _ c4, ?_⟩
    · refine Ev.step (f := fun _ => some _) (fun k => ?_) (Ev.now _)
      simp only [nat_give.l0]
      rw [if_neg c1, hw, if_pos c2, if_pos c3, if_pos hxi.1, if_pos hc.1, if_pos hc.2, Int.toNat_natCast]
    · have e := step_give _ _ c _ (rd x ((j + d.length : Nat) : Int)) 0 _ _ HV.out (by rw [Int.add_zero]; exact k4)
      rw [Int.mul_zero, Int.add_zero] at e
      rw [val_set x _ _ b1, pw_succ]
      exact e
  | succ m ih0 =>
    intro i x c hi hx hx2 hl hc hv
    have HV := Aside0.mk hv
    clear hv
    have b1 : i < d.length := by omega
    have b2 : i + j < x.length := by omega
    have c1 : (i : Int) < (d.length : Int) := by omega
    have c2 : (0 : Int) ≤ (i : Int) := by omega
    have c3 : (0 : Int) ≤ ((i + j : Nat) : Int) := by omega
    have c4 : ((i + j : Nat) : Int) < (x.length : Int) := by omega
    have c5 : i + 1 + m = d.length := by omega
    have c6 : i + j < j + d.length + 1 := by omega
    have c7 : i + 1 + j = i + j + 1 := by omega
    have c8 : i + j < 9000000 := by omega
    have c9 : i < 9000000 := by omega
    have hdi := rd_lim hd i b1
    have hxi := rd_lim hl (i + j) b2
    obtain ⟨k0, k1, k2, k3, k4⟩ := give_ok (rd x ((i + j : Nat) : Int) + rd d (i : Int) + c) (by omega) (by omega)
    have hw := w64a i j c8
    have hw2 := w64s i c9
    obtain ⟨b', x', e1, e2, e3, e4, e5, e6, e7⟩ := ih0 (i + 1) (x.set (i + j) _) _ c5 (by simpa using hx) (by simpa using hx2) (lim_set hl _ k0 k1) ⟨k2, k3⟩ (by
      rw [val_set x _ _ b2, val_take d i b1, c7, pw_succ]
      rw [step_give _ _ _ _ _ (rd d (i : Int)) _ _ HV.out k4, pw_add]
      exact ring_give _ _ _ _ _)
    refine ⟨b', x', ?_, e2, e3, by rw [e4]; simp, e5, by rw [e6]; exact drop_set _ _ _ _ c6, e7⟩
    refine Ev.step (fun k => ?_) e1
    simp only [nat_give.l0]
    rw [if_pos c1, hw, if_pos c3, if_pos c4, if_pos c2, if_pos c1, if_pos hxi.1, if_pos hdi.1, if_pos hc.1, if_pos hc.2, Int.toNat_natCast, hw2]
theorem give_ev (d : List Int) (hd : lim d) (j : Nat) (hlen : j + d.length < 1000000) (x : List Int) (hx : j + d.length < x.length) (hx2 : x.length < 2000000) (hl : lim x)
    (hX : val x < pw (j + d.length + 1)) : ∃ x' : List Int, Ev (fun k => nat_give.f k x d (j : Int)) (decide (pw (j + d.length + 1) ≤ val x + pw j * val d), x') ∧ x'.length = x.length ∧ lim x' ∧ val x' < pw (j + d.length + 1) ∧
      val x' = val x + pw j * val d - (if pw (j + d.length + 1) ≤ val x + pw j * val d then pw (j + d.length + 1) else 0) := by
  obtain ⟨b, x', h1, h2, h3, h4, h5, h6, h7⟩ := give_l0 d hd j (val x) hlen d.length 0 x 0 (by omega) hx hx2 hl (by omega) (by simp [val])
  have hz := top_zero hl (j + d.length + 1) (by omega) hX
  rw [← h6] at hz
  have hlt := low_lt h5 (j + d.length + 1) (by omega) hz
  have h0 := val_nonneg h5
  have hp := pw_pos (j + d.length + 1)
  rcases (by omega : b = 0 ∨ b = 1) with e | e
  · subst e
    rw [Int.mul_zero] at h7
    have hn : ¬ pw (j + d.length + 1) ≤ val x + pw j * val d := by omega
    refine ⟨x', ?_, h4, h5, hlt, by rw [if_neg hn]; omega⟩
    rw [decide_eq_false hn]
    exact Ev.congr (fun k => rfl) h1
  · subst e
    rw [Int.mul_one] at h7
    have hn : pw (j + d.length + 1) ≤ val x + pw j * val d := by omega
    refine ⟨x', ?_, h4, h5, hlt, by rw [if_pos hn]; omega⟩
    rw [decide_eq_true hn]
    exact Ev.congr (fun k => rfl) h1
theorem guess_test {q r top U x1 x2 d2 : Int} (h : q * top + r = U * 18446744073709551616 + x1) :
    q * d2 ≤ r * 18446744073709551616 + x2 ↔ q * (top * 18446744073709551616 + d2) ≤ (U * 18446744073709551616 + x1) * 18446744073709551616 + x2 := by
  rw [← h]
  have e : q * (top * 18446744073709551616 + d2) = q * top * 18446744073709551616 + q * d2 := by rw [Int.mul_add, Int.mul_assoc]
  rw [e]
  generalize q * top = A; generalize q * d2 = C
  omega
theorem lex {p r x2 : Int} (hx : 0 ≤ x2 ∧ x2 < 18446744073709551616) : p ≤ r * 18446744073709551616 + x2 ↔ p / 18446744073709551616 < r ∨ (p / 18446744073709551616 = r ∧ p % 18446744073709551616 ≤ x2) := by
  omega
theorem guess_l0 (x d : List Int) (j n : Nat) (W U x1 x2 top d2 : Int) (hn : 2 ≤ n) (hdl : d.length = n) (hxl : j + n < x.length) (hlen : x.length < 1000000)
    (htop : 9223372036854775808 ≤ top ∧ top < 18446744073709551616) (hd2 : 0 ≤ d2 ∧ d2 < 18446744073709551616) (hx2 : 0 ≤ x2 ∧ x2 < 18446744073709551616)
    (ed : rd d ((n - 2 : Nat) : Int) = d2) (ex : rd x ((j + n - 2 : Nat) : Int) = x2) (hW0 : 0 ≤ W) (hW : W * (top * 18446744073709551616 + d2) ≤ (U * 18446744073709551616 + x1) * 18446744073709551616 + x2) :
    ∀ (m : Nat) (q r : Int), q = W + m → q < 18446744073709551616 → 0 ≤ r ∧ r < 18446744073709551616 → q * top + r = U * 18446744073709551616 + x1 →
    ∃ g : Int, Ev (fun k => nat_guess.l0 k x d (j : Int) (n : Int) top q r) g ∧ W ≤ g ∧ g < 18446744073709551616 := by
  have c1 : (0 : Int) ≤ ((n - 2 : Nat) : Int) := by omega
  have c2 : ((n - 2 : Nat) : Int) < (d.length : Int) := by omega
  have c3 : (0 : Int) ≤ ((j + n - 2 : Nat) : Int) := by omega
  have c4 : ((j + n - 2 : Nat) : Int) < (x.length : Int) := by omega
  have c5 : j + n < 9000000 := by omega
  have c6 : ((n : Nat) : Int) - 2 = ((n - 2 : Nat) : Int) := by omega
  have c7 : ((j + n : Nat) : Int) - 2 = ((j + n - 2 : Nat) : Int) := by omega
  have hw1 : wrap64 ((n : Int) - 2) = ((n - 2 : Nat) : Int) := by rw [c6, w64 (by omega) (by omega)]
  have HW1 := Aside0.mk hw1
  clear hw1
  have hw2 := w64a j n c5
  have HW2 := Aside0.mk hw2
  clear hw2
  have hw3 : wrap64 (((j + n : Nat) : Int) - 2) = ((j + n - 2 : Nat) : Int) := by rw [c7, w64 (by omega) (by omega)]
  have HW3 := Aside0.mk hw3
  clear hw3 hlen
  have HED := Aside0.mk ed
  have HEX := Aside0.mk ex
  clear ed ex
  intro m
  induction m with
  | zero =>
    intro q r hq hq1 hr hv
    have hqW : q = W := by omega
    subst hqW
    rw [← guess_test hv] at hW
    rw [lex hx2] at hW
    have hm := Mul64_eq (a := q) (b := d2) ⟨hW0, hq1⟩ hd2
    refine ⟨q, ?_, Int.le_refl _, hq1⟩
    refine Ev.step (f := fun k => nat_guess.j1 k x d (j : Int) (n : Int) top q r true) (fun k => ?_) (Ev.step (f := fun _ => some q) (fun k => ?_) (Ev.now _))
    · simp only [nat_guess.l0]
      rw [HW1.out, if_pos c1, if_pos c2, HED.out, hm, Option.bind_some]
      simp only []
      by_cases h1 : q * d2 / 18446744073709551616 < r
      · rw [if_pos h1]
      · have h2 := hW.resolve_left h1
        rw [if_neg h1, if_pos h2.1, HW2.out, HW3.out, if_pos c3, if_pos c4, HEX.out, decide_eq_true h2.2]
    · simp only [nat_guess.j1]
      rw [if_pos trivial]
  | succ m ih =>
    intro q r hq hq1 hr hv
    have hq0 : 0 ≤ q := by omega
    by_cases ht : q * d2 ≤ r * 18446744073709551616 + x2
    · rw [lex hx2] at ht
      have hm := Mul64_eq (a := q) (b := d2) ⟨hq0, hq1⟩ hd2
      refine ⟨q, ?_, by omega, hq1⟩
      refine Ev.step (f := fun k => nat_guess.j1 k x d (j : Int) (n : Int) top q r true) (fun k => ?_) (Ev.step (f := fun _ => some q) (fun k => ?_) (Ev.now _))
      · simp only [nat_guess.l0]
        rw [HW1.out, if_pos c1, if_pos c2, HED.out, hm, Option.bind_some]
        simp only []
        by_cases h1 : q * d2 / 18446744073709551616 < r
        · rw [if_pos h1]
        · have h2 := ht.resolve_left h1
          rw [if_neg h1, if_pos h2.1, HW2.out, HW3.out, if_pos c3, if_pos c4, HEX.out, decide_eq_true h2.2]
      · simp only [nat_guess.j1]
        rw [if_pos trivial]
    · have hm := Mul64_eq (a := q) (b := d2) ⟨hq0, hq1⟩ hd2
      rw [lex hx2] at ht
      have e1 : IntKind.u64.wrap (q - 1) = q - 1 := u64w (by omega) (by omega)
      have hv2 : (q - 1) * top + (r + top) = U * 18446744073709551616 + x1 := by rw [Int.sub_mul, Int.one_mul]; omega
      have step1 : ∀ k, nat_guess.l0 (k + 1) x d (j : Int) (n : Int) top q r = nat_guess.j1 k x d (j : Int) (n : Int) top q r false := by
        intro k
        simp only [nat_guess.l0]
        rw [HW1.out, if_pos c1, if_pos c2, HED.out, hm, Option.bind_some]
        simp only []
        have h1 : ¬ q * d2 / 18446744073709551616 < r := fun h => ht (.inl h)
        rw [if_neg h1]
        by_cases h2 : q * d2 / 18446744073709551616 = r
        · have h3 : ¬ q * d2 % 18446744073709551616 ≤ x2 := fun h => ht (.inr ⟨h2, h⟩)
          rw [if_pos h2, HW2.out, HW3.out, if_pos c3, if_pos c4, HEX.out, decide_eq_false h3]
        · rw [if_neg h2]
      have htp : 0 ≤ top := by omega
      by_cases hb : r + top ≥ 18446744073709551616
      · have hb' : (r + top) / 18446744073709551616 > 0 := by clear hv hv2 ht hm hW; omega
        refine ⟨q - 1, Ev.step step1 (Ev.step (f := fun _ => some (q - 1)) (fun k => ?_) (Ev.now _)), by omega, by omega⟩
        simp only [nat_guess.j1]
        rw [if_neg (by decide), if_pos hr.1, if_pos htp, if_pos hb', e1]
      · have hb' : ¬ (r + top) / 18446744073709551616 > 0 := by clear hv hv2 ht hm hW; omega
        have hb2 : (r + top) % 18446744073709551616 = r + top := by clear hv hv2 ht hm hW; omega
        obtain ⟨g, g1, g2, g3⟩ := ih (q - 1) (r + top) (by omega) (by omega) (by clear hv hv2 ht hm hW; omega) hv2
        refine ⟨g, Ev.step step1 (Ev.step (fun k => ?_) g1), g2, g3⟩
        simp only [nat_guess.j1]
        rw [if_neg (by decide), if_pos hr.1, if_pos htp, if_neg hb', e1, hb2]
end Go.Proofs.Ytjfldeoddjicoaa.QLoadCountAddsUp
