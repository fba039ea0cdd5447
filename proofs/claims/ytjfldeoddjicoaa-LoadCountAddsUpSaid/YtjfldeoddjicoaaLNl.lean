/- Package nat: the long division answers quotient and rest. Condition: the limbs are fewer than a million, and the divisor is not 0. -/
import Derived.Test.YtjfldeoddjicoaaLNk
namespace Go.Proofs.Ytjfldeoddjicoaa.QLoadCountAddsUp
open Go.RowKit Go.Proofs.YtjfldeoddjicoaaW.PrintWords Go.Proofs.YtjfldeoddjicoaaW.PrintLast Go.Proofs.YtjfldeoddjicoaaW.PrintMore
set_option linter.unusedVariables false
set_option linter.unusedSimpArgs false
theorem guess_arith {D Dl Pj Pn dd X Xl T W : Int} (hD : D = Dl + Pn * dd) (hDl : 0 ≤ Dl) (hPj : 0 < Pj) (hPn : 0 < Pn) (hX : X = Xl + Pj * Pn * T) (hXl : Xl < Pj * Pn) (hW : 0 ≤ W) (h : W * (Pj * D) ≤ X) : W * dd ≤ T := by
  by_cases hc : W * dd ≤ T
  · exact hc
  · have hP : 0 < Pj * Pn := Int.mul_pos hPj hPn
    have h1 := Int.mul_le_mul_of_nonneg_left (show T + 1 ≤ W * dd by omega) (Int.le_of_lt hP)
    have h2 : W * (Pj * D) = Pj * Pn * (W * dd) + W * (Pj * Dl) := by rw [hD]; clear hX h h1 hD; grind
    have h3 : 0 ≤ W * (Pj * Dl) := Int.mul_nonneg hW (Int.mul_nonneg (by omega) hDl)
    have h4 : Pj * Pn * (T + 1) = Pj * Pn * T + Pj * Pn := by rw [Int.mul_add, Int.mul_one]
    rw [h4] at h1
    rw [h2] at h
    generalize Pj * Pn * (W * dd) = A at *
    generalize W * (Pj * Dl) = B at *
    generalize Pj * Pn * T = C at *
    omega
theorem guess_first {W top d2 U x1 x2 : Int} (htop : 0 < top) (hW0 : 0 ≤ W) (hd2 : 0 ≤ d2) (hx2 : x2 < 18446744073709551616) (h : W * (top * 18446744073709551616 + d2) ≤ (U * 18446744073709551616 + x1) * 18446744073709551616 + x2) :
    W ≤ (U * 18446744073709551616 + x1) / top := by
  have e : W * (top * 18446744073709551616 + d2) = W * top * 18446744073709551616 + W * d2 := by rw [Int.mul_add, Int.mul_assoc]
  have h2 := Int.mul_nonneg hW0 hd2
  rw [e] at h
  refine Int.le_ediv_of_mul_le htop ?_
  generalize W * d2 = A at *
  generalize W * top = B at *
  omega
theorem guess_ev (x d : List Int) (j n : Nat) (W : Int) (hn : 2 ≤ n) (hdl : d.length = n) (hxl : j + n < x.length) (hlen : x.length < 1000000) (hd : lim d) (hx : lim x)
    (htop : 9223372036854775808 ≤ rd d ((n - 1 : Nat) : Int)) (hW0 : 0 ≤ W) (hW1 : W < 18446744073709551616) (hW : W * (pw j * val d) ≤ val x) (hX : val x < pw (j + n + 1)) :
    ∃ g : Int, Ev (fun k => nat_guess.f k x d (j : Int)) g ∧ W ≤ g ∧ g < 18446744073709551616 := by
  have b1 : n - 1 < d.length := by omega
  have b2 : n - 2 < d.length := by omega
  have b3 : j + n < x.length := hxl
  have b4 : j + n - 1 < x.length := by omega
  have b5 : j + n - 2 < x.length := by omega
  have c1 : (0 : Int) ≤ ((n - 1 : Nat) : Int) := by omega
  have c2 : ((n - 1 : Nat) : Int) < (d.length : Int) := by omega
  have c3 : (0 : Int) ≤ ((j + n : Nat) : Int) := by omega
  have c4 : ((j + n : Nat) : Int) < (x.length : Int) := by omega
  have c5 : (0 : Int) ≤ ((j + n - 1 : Nat) : Int) := by omega
  have c6 : ((j + n - 1 : Nat) : Int) < (x.length : Int) := by omega
  have c7 : j + n < 9000000 := by omega
  have c8 : ((j + n : Nat) : Int) - 1 = ((j + n - 1 : Nat) : Int) := by omega
  have c9 : (d.length : Int) - 1 = ((n - 1 : Nat) : Int) := by omega
  have c10 : (d.length : Int) = (n : Int) := by omega
  have hn1 : n - 1 + 1 = n := by omega
  have hn2 : n - 2 + 1 = n - 1 := by omega
  have hj1 : j + n - 1 + 1 = j + n := by omega
  have hj2 : j + n - 2 + 1 = j + n - 1 := by omega
  have hj3 : j + n + 1 ≤ x.length := by omega
  have hw1 : wrap64 ((d.length : Int) - 1) = ((n - 1 : Nat) : Int) := by rw [c9, w64 (by omega) (by omega)]
  have HW1 := Aside0.mk hw1
  clear hw1
  have hw2 := w64a j n c7
  have HW2 := Aside0.mk hw2
  clear hw2
  have hw3 : wrap64 (((j + n : Nat) : Int) - 1) = ((j + n - 1 : Nat) : Int) := by rw [c8, w64 (by omega) (by omega)]
  have HW3 := Aside0.mk hw3
  clear hw3
  have ht := rd_lim hd (n - 1) b1
  have h2 := rd_lim hd (n - 2) b2
  have hU := rd_lim hx (j + n) b3
  have h1 := rd_lim hx (j + n - 1) b4
  have h0 := rd_lim hx (j + n - 2) b5
  have eD : val d = val (d.take (n - 2)) + pw (n - 2) * (rd d ((n - 1 : Nat) : Int) * 18446744073709551616 + rd d ((n - 2 : Nat) : Int)) := by
    have e1 := val_take d (n - 1) b1
    have e2 := val_take d (n - 2) b2
    have e3 := pw_succ (n - 2)
    rw [hn1, List.take_of_length_le (by omega)] at e1
    rw [hn2] at e2 e3
    rw [e1, e2, e3]
    clear e1 e2 e3 HW1 HW2 HW3 hW hX
    grind
  have eX : val x = val (x.take (j + n - 2)) + pw j * pw (n - 2) * ((rd x ((j + n : Nat) : Int) * 18446744073709551616 + rd x ((j + n - 1 : Nat) : Int)) * 18446744073709551616 + rd x ((j + n - 2 : Nat) : Int)) := by
    have e0 := val_split x (j + n + 1) hj3
    rw [top_zero hx _ hj3 hX, Int.mul_zero, Int.add_zero] at e0
    have e1 := val_take x (j + n) b3
    have e2 := val_take x (j + n - 1) b4
    have e3 := val_take x (j + n - 2) b5
    have e4 := pw_succ (j + n - 2)
    have e5 := pw_succ (j + n - 1)
    have e6 := pw_add j (n - 2)
    rw [show j + (n - 2) = j + n - 2 by omega] at e6
    rw [hj1] at e2 e5
    rw [hj2] at e3 e4
    rw [e0, e1, e2, e3, e5, e4, e6]
    clear e0 e1 e2 e3 e4 e5 e6 HW1 HW2 HW3 hW hX eD
    grind
  have hlt : val (x.take (j + n - 2)) < pw j * pw (n - 2) := by
    have := val_lt (lim_take hx (j + n - 2))
    rw [List.length_take, Nat.min_eq_left (by omega), show j + n - 2 = j + (n - 2) by omega, pw_add] at this
    rw [show j + n - 2 = j + (n - 2) by omega]
    exact this
  have hg := guess_arith eD (val_nonneg (lim_take hd _)) (pw_pos j) (pw_pos (n - 2)) eX hlt hW0 hW
  clear eD eX hlt hW hX
  by_cases hc : rd x ((j + n : Nat) : Int) ≥ rd d ((n - 1 : Nat) : Int)
  · refine ⟨18446744073709551615, Ev.congr (f := fun _ => some 18446744073709551615) (fun k => ?_) (Ev.now _), by omega, by decide⟩
    simp only [nat_guess.f]
    rw [HW1.out, if_pos c1, if_pos c2, c10, HW2.out, if_pos c3, if_pos c4, if_pos hc]
  · have hd64 := Div64_int hU.1 (show rd x ((j + n : Nat) : Int) < rd d ((n - 1 : Nat) : Int) by clear hg; omega) ht.2 h1.1 h1.2
    have htp : 0 < rd d ((n - 1 : Nat) : Int) := by clear hg; omega
    have hf := guess_first htp hW0 h2.1 h0.2 hg
    obtain ⟨q0, q1, r0, r1⟩ := digit_ok _ _ _ htp hU.1 (show rd x ((j + n : Nat) : Int) < rd d ((n - 1 : Nat) : Int) by clear hg hf hd64; omega) h1
    have hdm : (rd x ((j + n : Nat) : Int) * 18446744073709551616 + rd x ((j + n - 1 : Nat) : Int)) / rd d ((n - 1 : Nat) : Int) * rd d ((n - 1 : Nat) : Int) + (rd x ((j + n : Nat) : Int) * 18446744073709551616 + rd x ((j + n - 1 : Nat) : Int)) % rd d ((n - 1 : Nat) : Int) = rd x ((j + n : Nat) : Int) * 18446744073709551616 + rd x ((j + n - 1 : Nat) : Int) := by
      rw [Int.mul_comm]; exact Int.mul_ediv_add_emod _ _
    have hr1 := Int.lt_trans r1 ht.2
    generalize hq : (rd x ((j + n : Nat) : Int) * 18446744073709551616 + rd x ((j + n - 1 : Nat) : Int)) / rd d ((n - 1 : Nat) : Int) = q at *
    generalize hr : (rd x ((j + n : Nat) : Int) * 18446744073709551616 + rd x ((j + n - 1 : Nat) : Int)) % rd d ((n - 1 : Nat) : Int) = r at *
    obtain ⟨m, hm⟩ : ∃ m : Nat, q = W + m := ⟨(q - W).toNat, by clear hg hd64 hdm hq hr; omega⟩
    obtain ⟨g, g1, g2, g3⟩ := guess_l0 x d j n W _ _ _ _ _ hn hdl hxl hlen ⟨htop, ht.2⟩ h2 h0 rfl rfl hW0 hg m q r hm q1 ⟨r0, hr1⟩ hdm
    refine ⟨g, ?_, g2, g3⟩
    refine Ev.congr (f := fun k => (bits_Div64.f k (rd x ((j + n : Nat) : Int)) (rd x ((j + n - 1 : Nat) : Int)) (rd d ((n - 1 : Nat) : Int))).bind fun t => nat_guess.l0 k x d (j : Int) (n : Int) (rd d ((n - 1 : Nat) : Int)) t.1 t.2) (fun k => ?_) (Ev.bind hd64 g1)
    simp only [nat_guess.f]
    rw [HW1.out, if_pos c1, if_pos c2, c10, HW2.out, if_pos c3, if_pos c4, if_neg hc, HW3.out, if_pos c5, if_pos c6]
theorem digit_of {X E : Int} (hE : 0 < E) (hX0 : 0 ≤ X) (hX : X < E * 18446744073709551616) : 0 ≤ X / E ∧ X / E < 18446744073709551616 ∧ X / E * E ≤ X ∧ 0 ≤ X - X / E * E ∧ X - X / E * E < E ∧ (∀ g : Int, g * E ≤ X → g ≤ X / E) ∧ (∀ g : Int, X < g * E → X / E < g) := by
  have h1 := Int.ediv_mul_le X (show E ≠ 0 by omega)
  have h2 := Int.lt_ediv_add_one_mul_self X hE
  rw [Int.add_mul, Int.one_mul] at h2
  refine ⟨Int.ediv_nonneg hX0 (by omega), Int.ediv_lt_of_lt_mul hE (by rw [Int.mul_comm]; exact hX), h1, by omega, by omega, fun g hg => Int.le_ediv_of_mul_le hE hg, fun g hg => Int.ediv_lt_of_lt_mul hE hg⟩
theorem DivMod_l1 (s : Int) (d x : List Int) (j n : Nat) (X W : Int) (r : List Int × List Int) (qs : List Int) (hdl : d.length = n) (hlen : x.length < 1000000) (hxl : j + n < x.length) (hd : lim d) (hE : 0 < pw j * val d)
    (hX0 : 0 ≤ X) (hX : X < pw j * val d * 18446744073709551616) (hW : W = X / (pw j * val d)) (hqs : j < qs.length)
    (hnext : ∀ x' : List Int, x'.length = x.length → lim x' → val x' = X - W * (pw j * val d) → Ev (fun k => nat_DivMod.l0 k s d x' (qs.set j W) ((j : Int) - 1)) r) :
    ∀ (e : Nat) (g : Int) (y : List Int), g = W + e → g < 18446744073709551616 → y.length = x.length → lim y → val y < pw (j + n + 1) → val y = X - (g + 1) * (pw j * val d) + pw (j + n + 1) → X < (g + 1) * (pw j * val d) →
    Ev (fun k => nat_DivMod.l1 k s d y qs (j : Int) g) r := by
  obtain ⟨w0, w1, w2, w3, w4, w5, w6⟩ := digit_of hE hX0 hX
  rw [← hW] at w0 w1 w2 w3 w4 w5 w6
  have c1 : (j : Int) < (qs.length : Int) := by omega
  have c2 : (0 : Int) ≤ (j : Int) := by omega
  have c3 : j < 9000000 := by omega
  have c4 : j + n < 1000000 := by omega
  have hp := w64p j c3
  have HP := Aside0.mk hp
  clear hp
  subst hdl
  intro e
  induction e with
  | zero =>
    intro g y hg hg1 hyl hy hyP hv hlt
    have hgW : g = W := by omega
    subst hgW
    rw [Int.add_mul, Int.one_mul] at hv
    obtain ⟨x', g1, g2, g3, g4, g5⟩ := give_ev d hd j c4 y (by omega) (by omega) hy hyP
    have hc : pw (j + d.length + 1) ≤ val y + pw j * val d := by
      generalize g * (pw j * val d) = A at *
      generalize pw j * val d = B at *
      omega
    rw [decide_eq_true hc] at g1
    rw [if_pos hc] at g5
    have hn := hnext x' (by omega) g3 (by
      rw [g5, hv]
      generalize g * (pw j * val d) = A at *
      generalize pw j * val d = B at *
      omega)
    refine Ev.step (f := fun k => (nat_give.f k y d (j : Int)).bind fun t => if t.1 = true then (if 0 ≤ (j : Int) then (if (j : Int) < (qs.length : Int) then nat_DivMod.l0 k s d t.2 (qs.set (j : Int).toNat g) (wrap64 ((j : Int) - 1)) else none) else none) else nat_DivMod.l1 k s d t.2 qs (j : Int) (IntKind.u64.wrap (g - 1))) (fun k => ?_) (Ev.bind g1 ?_)
    · simp only [nat_DivMod.l1]
    · refine Ev.congr (fun k => ?_) hn
      simp only []
      rw [if_pos trivial, if_pos c2, if_pos c1, HP.out, Int.toNat_natCast]
  | succ e ih =>
    intro g y hg hg1 hyl hy hyP hv hlt
    rw [Int.add_mul, Int.one_mul] at hv
    obtain ⟨x', g1, g2, g3, g4, g5⟩ := give_ev d hd j c4 y (by omega) (by omega) hy hyP
    have hXg : X < g * (pw j * val d) := by
      by_cases h : X < g * (pw j * val d)
      · exact h
      · have := w5 g (by omega)
        omega
    have hc : ¬ pw (j + d.length + 1) ≤ val y + pw j * val d := by
      generalize g * (pw j * val d) = A at *
      generalize pw j * val d = B at *
      omega
    rw [decide_eq_false hc] at g1
    rw [if_neg hc] at g5
    have hw : IntKind.u64.wrap (g - 1) = g - 1 := u64w (by omega) (by omega)
    have eg : g - 1 + 1 = g := by omega
    have hn := ih (g - 1) x' (by omega) (by omega) (by omega) g3 g4 (by
      rw [eg, g5, hv]
      generalize g * (pw j * val d) = A at *
      generalize pw j * val d = B at *
      omega) (by rw [eg]; exact hXg)
    refine Ev.step (f := fun k => (nat_give.f k y d (j : Int)).bind fun t => if t.1 = true then (if 0 ≤ (j : Int) then (if (j : Int) < (qs.length : Int) then nat_DivMod.l0 k s d t.2 (qs.set (j : Int).toNat g) (wrap64 ((j : Int) - 1)) else none) else none) else nat_DivMod.l1 k s d t.2 qs (j : Int) (IntKind.u64.wrap (g - 1))) (fun k => ?_) (Ev.bind g1 ?_)
    · simp only [nat_DivMod.l1]
    · refine Ev.congr (fun k => ?_) hn
      simp only []
      rw [if_neg (by decide), hw]
end Go.Proofs.Ytjfldeoddjicoaa.QLoadCountAddsUp
