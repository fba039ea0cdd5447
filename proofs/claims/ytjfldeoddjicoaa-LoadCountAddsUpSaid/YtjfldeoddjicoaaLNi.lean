/- Go's Div64: quotient and rest of a double word by a word. Condition: the divisor is greater than the high word. -/
import Derived.Test.YtjfldeoddjicoaaLNh
namespace Go.Proofs.Ytjfldeoddjicoaa.QLoadCountAddsUp
open Go.RowKit Go.Proofs.YtjfldeoddjicoaaW.PrintWords Go.Proofs.YtjfldeoddjicoaaW.PrintLast Go.Proofs.YtjfldeoddjicoaaW.PrintMore
set_option linter.unusedVariables false
set_option linter.unusedSimpArgs false
theorem Div_l1 (y y1 y0 U w N Q s Qh : Int) (r : Int × Int) (hy : y = y1 * 4294967296 + y0) (hN : N = U * 4294967296 + w) (hQ : Q = N / y) (hQ0 : 0 ≤ Q)
    (h1 : 2147483648 ≤ y1 ∧ y1 < 4294967296) (h0 : 0 ≤ y0 ∧ y0 < 4294967296) (hw : 0 ≤ w ∧ w < 4294967296) (hU : U < y) (hs : 0 ≤ s)
    (hr : (IntKind.u64.wrap ((IntKind.u64.wrap (Qh * 4294967296)) + Q), shr .u64 (IntKind.u64.wrap ((IntKind.u64.wrap ((IntKind.u64.wrap (U * 4294967296)) + w)) - (IntKind.u64.wrap (Q * y)))) s) = r) :
    ∀ (d : Nat) (q rh : Int), q = Q + d → q ≤ 4294967297 → 0 ≤ rh ∧ rh < 4294967296 → q * y1 + rh = U →
    Ev (fun k => bits_Div64.l1 k y s y1 y0 w Qh rh U q) r := by
  have hypos : 0 < y := by omega
  intro d
  induction d with
  | zero =>
    intro q rh hq hq1 hrr hv
    have hq' : q = Q := by omega
    subst hq'
    have hle : q * y ≤ N := by rw [hQ, Int.mul_comm]; exact Int.mul_ediv_self_le (by omega)
    have hlt : q < 4294967296 := by
      rw [hQ]; exact Int.ediv_lt_of_lt_mul hypos (by rw [hN, Int.mul_comm]; omega)
    have ht : ¬ q * y0 > 4294967296 * rh + w := by rw [div_test hv, ← hy, ← hN]; omega
    have hm := small_mul hQ0 (by omega) h0.1 h0.2
    refine Ev.step (f := fun k => bits_Div64.j4 k y s y1 y0 w Qh rh U q false) (fun k => ?_) (Ev.step (f := fun k => some r) (fun k => ?_) (Ev.now _))
    · simp only [bits_Div64.l1]
      rw [if_neg (by omega), u64w (n := q * y0) (by omega) (by omega), u64w (n := 4294967296 * rh) (by omega) (by omega), u64w (n := 4294967296 * rh + w) (by omega) (by omega), decide_eq_false ht]
    · simp only [bits_Div64.j4]
      rw [if_neg (by decide), if_pos hs, hr]
  | succ d ih =>
    intro q rh hq hq1 hrr hv
    have hv2 : (q - 1) * y1 + (rh + y1) = U := by rw [Int.sub_mul, Int.one_mul]; omega
    have hgt : q * y > N := by
      have h := Int.lt_mul_of_ediv_lt hypos (show N / y < q by omega)
      exact h
    have ht : q * y0 > 4294967296 * rh + w := by rw [div_test hv, ← hy, ← hN]; exact hgt
    have e1 : IntKind.u64.wrap (q - 1) = q - 1 := u64w (by omega) (by omega)
    have e2 : IntKind.u64.wrap (rh + y1) = rh + y1 := u64w (by omega) (by omega)
    refine Ev.step (f := fun k => bits_Div64.j4 k y s y1 y0 w Qh rh U q true) (fun k => ?_) ?_
    · simp only [bits_Div64.l1]
      by_cases hb : q ≥ 4294967296
      · rw [if_pos hb]
      · have hm := small_mul (q := q) (by omega) (by omega) h0.1 h0.2
        rw [if_neg hb, u64w (n := q * y0) (by omega) (by omega), u64w (n := 4294967296 * rh) (by omega) (by omega), u64w (n := 4294967296 * rh + w) (by omega) (by omega), decide_eq_true ht]
    · by_cases hb : rh + y1 ≥ 4294967296
      · have hm := small_mul (q := q - 1) (by omega) (by omega) h0.1 h0.2
        have hle : (q - 1) * y ≤ N := by
          have : ¬ (q - 1) * y0 > 4294967296 * (rh + y1) + w := by omega
          rw [div_test hv2, ← hy, ← hN] at this
          omega
        have hqq := div_le hypos hQ (by omega) hle
        refine Ev.step (f := fun k => some r) (fun k => ?_) (Ev.now _)
        simp only [bits_Div64.j4]
        rw [if_pos trivial, e1, e2, if_pos hb, hqq, if_pos hs, hr]
      · refine Ev.step (fun k => ?_) (ih (q - 1) (rh + y1) (by omega) (by omega) (by omega) hv2)
        simp only [bits_Div64.j4]
        rw [if_pos trivial, e1, e2, if_neg hb]
theorem red_sub (a b c : Int) : IntKind.u64.wrap (IntKind.u64.wrap (IntKind.u64.wrap a + b) - IntKind.u64.wrap c) = (a + b - c) % 18446744073709551616 := by
  rw [u64m, u64m, u64m, u64m]; omega
theorem digit (y y1 y0 U w N Q : Int) (hy : y = y1 * 4294967296 + y0) (hN : N = U * 4294967296 + w) (hQ : Q = N / y)
    (h1 : 2147483648 ≤ y1 ∧ y1 < 4294967296) (h0 : 0 ≤ y0 ∧ y0 < 4294967296) (hw : 0 ≤ w ∧ w < 4294967296) (hU0 : 0 ≤ U) (hU : U < y) :
    0 ≤ Q ∧ Q < 4294967296 ∧ Q ≤ U / y1 ∧ 0 ≤ U / y1 ∧ U / y1 ≤ 4294967297 ∧ U / y1 * y1 + (U - U / y1 * y1) = U ∧ 0 ≤ U - U / y1 * y1 ∧ U - U / y1 * y1 < 4294967296 ∧
    0 ≤ U / y1 * y1 ∧ U / y1 * y1 ≤ U ∧ N - Q * y = N % y ∧ 0 ≤ N % y ∧ N % y < y ∧ Q * y + N % y = N := by
  have hypos : 0 < y := by omega
  have hN0 : 0 ≤ N := by omega
  have hQ0 : 0 ≤ Q := by rw [hQ]; exact Int.ediv_nonneg hN0 (by omega)
  have hQ1 : Q < 4294967296 := by rw [hQ]; exact Int.ediv_lt_of_lt_mul hypos (by rw [hN, Int.mul_comm]; omega)
  have hle : Q * y ≤ N := by rw [hQ, Int.mul_comm]; exact Int.mul_ediv_self_le (by omega)
  have hr := Int.emod_nonneg N (show y ≠ 0 by omega)
  have hr2 := Int.emod_lt_of_pos N hypos
  have hdm : Q * y + N % y = N := by rw [hQ, Int.mul_comm]; exact Int.mul_ediv_add_emod N y
  have e : Q * y = Q * y1 * 4294967296 + Q * y0 := by rw [hy, Int.mul_add, Int.mul_assoc]
  have hm := small_mul hQ0 (by omega) h0.1 h0.2
  have hq1 : Q ≤ U / y1 := Int.le_ediv_of_mul_le (by omega) (by
    generalize Q * y = A at *; generalize Q * y1 = B at *; generalize Q * y0 = C at *
    clear hQ hdm hr hr2 hQ0 hQ1
    omega)
  have h2 : U / y1 * y1 + U % y1 = U := by rw [Int.mul_comm]; exact Int.mul_ediv_add_emod U y1
  have h3 := Int.emod_nonneg U (show y1 ≠ 0 by omega)
  have h4 := Int.emod_lt_of_pos U (show 0 < y1 by omega)
  have h5 : U / y1 ≤ 4294967297 := by
    have : U / y1 < 4294967298 := Int.ediv_lt_of_lt_mul (by omega) (by rw [Int.mul_comm]; omega)
    omega
  have h6 : 0 ≤ U / y1 := Int.ediv_nonneg hU0 (by omega)
  have h7 : 0 ≤ U / y1 * y1 := Int.mul_nonneg h6 (by omega)
  generalize U / y1 * y1 = A at *
  generalize Q * y = B at *
  refine ⟨hQ0, hQ1, hq1, h6, h5, by omega, by omega, by omega, h7, by omega, by omega, hr, hr2, hdm⟩
theorem Div_j2 (y y1 y0 U w w0 N Q s N0 : Int) (hy : y = y1 * 4294967296 + y0) (hN : N = U * 4294967296 + w) (hQ : Q = N / y) (hN0 : N0 = N % y * 4294967296 + w0)
    (h1 : 2147483648 ≤ y1 ∧ y1 < 4294967296) (h0 : 0 ≤ y0 ∧ y0 < 4294967296) (hw : 0 ≤ w ∧ w < 4294967296) (hw0 : 0 ≤ w0 ∧ w0 < 4294967296) (hU0 : 0 ≤ U) (hU : U < y) (hs : 0 ≤ s) :
    Ev (fun k => bits_Div64.j2 k y s y1 y0 U w w0 Q) (Q * 4294967296 + N0 / y, shr .u64 (N0 % y) s) := by
  obtain ⟨a1, a2, a3, a4, a5, a6, a7, a8, a9, a10, a11, a12, a13, a14⟩ := digit y y1 y0 U w N Q hy hN hQ h1 h0 hw hU0 hU
  obtain ⟨b1, b2, b3, b4, b5, b6, b7, b8, b9, b10, b11, b12, b13, b14⟩ := digit y y1 y0 (N % y) w0 N0 (N0 / y) hy hN0 rfl h1 h0 hw0 a12 a13
  have e21 : IntKind.u64.wrap ((IntKind.u64.wrap ((IntKind.u64.wrap (U * 4294967296)) + w)) - (IntKind.u64.wrap (Q * y))) = N % y := by
    rw [red_sub, ← hN, a11]
    exact Int.emod_eq_of_lt a12 (by omega)
  have e22 : IntKind.u64.wrap ((IntKind.u64.wrap ((IntKind.u64.wrap (N % y * 4294967296)) + w0)) - (IntKind.u64.wrap (N0 / y * y))) = N0 % y := by
    rw [red_sub, ← hN0, b11]
    exact Int.emod_eq_of_lt b12 (by omega)
  have et : IntKind.u64.wrap (Int.tdiv (N % y) y1) = N % y / y1 := by
    rw [Int.tdiv_eq_ediv_of_nonneg a12]
    exact u64w (by omega) (by omega)
  have ep : IntKind.u64.wrap (N % y / y1 * y1) = N % y / y1 * y1 := u64w (by omega) (by omega)
  have es : IntKind.u64.wrap (N % y - N % y / y1 * y1) = N % y - N % y / y1 * y1 := u64w (by omega) (by omega)
  have hy1 : ¬ y1 = 0 := by omega
  refine Ev.step (fun k => ?_) (Div_l1 y y1 y0 (N % y) w0 N0 (N0 / y) s Q _ hy hN0 rfl b1 h1 h0 hw0 a13 hs ?_ (N % y / y1 - N0 / y).toNat (N % y / y1) (N % y - N % y / y1 * y1) (by clear a14 b14 b6; omega) b5 ⟨b7, b8⟩ b6)
  · simp only [bits_Div64.j2]
    rw [if_neg hy1, e21, et, ep, es]
  · rw [e22, u64w (n := Q * 4294967296) (by omega) (by omega), u64w (n := Q * 4294967296 + N0 / y) (by omega) (by omega)]
theorem two_digits {y N w0 N0 T : Int} (hy : 0 < y) (hN0 : N0 = N % y * 4294967296 + w0) (hT : T = N * 4294967296 + w0) : N / y * 4294967296 + N0 / y = T / y ∧ N0 % y = T % y := by
  have h1 := Int.mul_ediv_add_emod N y
  have h2 := Int.mul_ediv_add_emod N0 y
  have e : T = y * (N / y * 4294967296) + N0 := by
    rw [hT, hN0]
    have : y * (N / y * 4294967296) = y * (N / y) * 4294967296 := by rw [Int.mul_assoc]
    rw [this]
    generalize y * (N / y) = A at *
    omega
  constructor
  · rw [e, Int.mul_add_ediv_left _ _ (by omega)]
  · rw [e, Int.mul_add_emod_self_left]
theorem Div_l0_all (y y1 y0 U w w0 s T : Int) (hy : y = y1 * 4294967296 + y0) (hT : T = U * 18446744073709551616 + w * 4294967296 + w0)
    (h1 : 2147483648 ≤ y1 ∧ y1 < 4294967296) (h0 : 0 ≤ y0 ∧ y0 < 4294967296) (hw : 0 ≤ w ∧ w < 4294967296) (hw0 : 0 ≤ w0 ∧ w0 < 4294967296) (hU0 : 0 ≤ U) (hU : U < y) (hs : 0 ≤ s) :
    Ev (fun k => bits_Div64.l0 k y s y1 y0 U w w0 (U / y1) (U - U / y1 * y1)) (T / y, shr .u64 (T % y) s) := by
  obtain ⟨a1, a2, a3, a4, a5, a6, a7, a8, a9, a10, a11, a12, a13, a14⟩ := digit y y1 y0 U w (U * 4294967296 + w) _ hy rfl rfl h1 h0 hw hU0 hU
  have hn := Div_j2 y y1 y0 U w w0 (U * 4294967296 + w) _ s _ hy rfl rfl rfl h1 h0 hw hw0 hU0 hU hs
  have h2 := two_digits (y := y) (N := U * 4294967296 + w) (w0 := w0) (T := T) (by omega) rfl (by omega)
  rw [h2.1, h2.2] at hn
  exact Div_l0 y y1 y0 U w _ _ s w0 _ hy rfl rfl a1 h1 h0 hw hU hn (U / y1 - (U * 4294967296 + w) / y).toNat (U / y1) _ (by clear a14 a6; omega) a5 ⟨a7, a8⟩ a6
theorem or_limb2 (O Y s : Nat) (ho : O < 2 ^ s) (hB : 2 ^ s * Y < 18446744073709551616) (hO : O < 18446744073709551616) : Go.bits .or .u64 ((2 ^ s * Y : Nat) : Int) (O : Int) = ((O + 2 ^ s * Y : Nat) : Int) := by
  rw [bits_or_u64_nat _ _ hB hO, ← Nat.two_pow_add_eq_or_of_lt ho, Nat.add_comm]
theorem Lz_ev (n : Nat) (h0 : n ≠ 0) (hn : n < 18446744073709551616) : ∃ s : Nat, Ev (fun k => bits_LeadingZeros64.f k (n : Int)) (s : Int) ∧ s < 64 ∧ 9223372036854775808 ≤ n * 2 ^ s ∧ n * 2 ^ s < 18446744073709551616 := by
  obtain ⟨s, _, h1, h2, h3⟩ := Lz_eq n h0 hn 0
  refine ⟨s, ⟨1, fun k hk => ?_⟩, h1, h2, h3⟩
  obtain ⟨k, rfl⟩ : ∃ j, k = j + 1 := ⟨k - 1, by omega⟩
  obtain ⟨s', e', h1', h2', h3'⟩ := Lz_eq n h0 hn k
  have key : ∀ u v : Nat, u < v → 9223372036854775808 ≤ n * 2 ^ u → n * 2 ^ v < 18446744073709551616 → False := by
    intro u v huv hu hv
    have h4 : 2 ^ (u + 1) ≤ 2 ^ v := Nat.pow_le_pow_right (by decide) huv
    have h5 := Nat.mul_le_mul_left n h4
    rw [Nat.pow_succ, ← Nat.mul_assoc] at h5
    generalize n * 2 ^ v = A at *
    generalize n * 2 ^ u = B at *
    omega
  have : s' = s := by
    rcases Nat.lt_trichotomy s s' with h | h | h
    · exact (key s s' h h2 h3').elim
    · exact h.symm
    · exact (key s' s h h2' h3).elim
  show bits_LeadingZeros64.f (k + 1) (n : Int) = _
  rw [e', this]
theorem Div64_evM (hi lo y M : Nat) (hM : M = hi * 18446744073709551616 + lo) (hy : hi < y) (hy2 : y < 18446744073709551616) (hlo : lo < 18446744073709551616) :
    Ev (fun k => bits_Div64.f k (hi : Int) (lo : Int) (y : Int)) (((M / y : Nat) : Int), ((M % y : Nat) : Int)) := by
  have c1 : ¬ (y : Int) = 0 := by omega
  have c2 : ¬ (y : Int) ≤ (hi : Int) := by omega
  by_cases h0 : hi = 0
  · subst h0
    refine Ev.congr (f := fun _ => some _) (fun k => ?_) (Ev.now _)
    simp only [bits_Div64.f]
    have hq : lo / y < 18446744073709551616 := Nat.lt_of_le_of_lt (Nat.div_le_self _ _) hlo
    have hw : IntKind.u64.wrap ((lo / y : Nat) : Int) = ((lo / y : Nat) : Int) := by
      generalize lo / y = q at *
      exact u64w (by omega) (by omega)
    rw [hM, if_neg c1, if_neg c2, if_pos (by simp), Int.tdiv_eq_ediv_of_nonneg (by omega), Int.tmod_eq_emod_of_nonneg (by omega), ← Int.natCast_ediv, ← Int.natCast_emod, hw, Nat.zero_mul, Nat.zero_add]
  · have c3 : ¬ (hi : Int) = 0 := by omega
    obtain ⟨s, hs, hs1, hs2, hs3⟩ := Lz_ev y (by omega) hy2
    have hP : 0 < 2 ^ s := Nat.pow_pos (by decide)
    have hB := twoB s (by omega)
    have hyl : y < 2 ^ (64 - s) := by
      rw [Nat.mul_comm, ← hB] at hs3
      exact Nat.lt_of_mul_lt_mul_left hs3
    have htop := shl_top lo s (by omega) hlo
    have hlow := shl_low lo s (by omega)
    have hsum := shl_sum lo s (by omega)
    have hhy : 2 ^ s * hi + 2 ^ s ≤ 2 ^ s * y := by
      rw [← Nat.mul_succ]; exact Nat.mul_le_mul_left _ hy
    have ey : shl .u64 (y : Int) (s : Int) = ((2 ^ s * y : Nat) : Int) := by rw [shl_limb y s (by omega), Nat.mod_eq_of_lt hyl]
    have eh : shl .u64 (hi : Int) (s : Int) = ((2 ^ s * hi : Nat) : Int) := by rw [shl_limb hi s (by omega), Nat.mod_eq_of_lt (by omega)]
    have el := shl_limb lo s (by omega)
    have es := shr_limb lo (64 - s) (by omega)
    have w1 : IntKind.u64.wrap (s : Int) = (s : Int) := u64w (by omega) (by omega)
    have w2 : IntKind.u64.wrap (64 - (s : Int)) = ((64 - s : Nat) : Int) := by rw [u64w (by omega) (by omega)]; omega
    rw [Nat.mul_comm] at hs2 hs3
    have eo := or_limb2 (lo / 2 ^ (64 - s)) hi s htop (by omega) (by omega)
    have hT : M * 2 ^ s = (lo / 2 ^ (64 - s) + 2 ^ s * hi) * 18446744073709551616 + 2 ^ s * (lo % 2 ^ (64 - s)) := by
      rw [hM, Nat.add_mul, ← hsum]
      have : hi * 18446744073709551616 * 2 ^ s = 2 ^ s * hi * 18446744073709551616 := by rw [Nat.mul_right_comm, Nat.mul_comm hi]
      rw [this]
      generalize 2 ^ s * hi = A
      generalize 2 ^ s * (lo % 2 ^ (64 - s)) = B
      omega
    have eq1 : (M * 2 ^ s) / (2 ^ s * y) = M / y := by rw [Nat.mul_comm (2 ^ s) y, Nat.mul_div_mul_right _ _ hP]
    have er1 : (M * 2 ^ s) % (2 ^ s * y) = M % y * 2 ^ s := by rw [Nat.mul_comm (2 ^ s) y, Nat.mul_mod_mul_right]
    have er2 := shr_limb (M % y * 2 ^ s) s (by omega)
    rw [Nat.mul_div_cancel _ hP] at er2
    simp only [bits_Div64.f, if_neg c1, if_neg c2, if_neg c3]
    refine Ev.bind hs ?_
    · simp only [w1, w2]
      obtain ⟨Y, hY⟩ : ∃ Y, Y = 2 ^ s * y := ⟨_, rfl⟩
      obtain ⟨L, hL⟩ : ∃ L, L = 2 ^ s * (lo % 2 ^ (64 - s)) := ⟨_, rfl⟩
      obtain ⟨U, hU⟩ : ∃ U, U = lo / 2 ^ (64 - s) + 2 ^ s * hi := ⟨_, rfl⟩
      have hUY : U < Y := by omega
      rw [← hU, ← hL] at hT
      rw [← hY] at eq1 er1 ey hs2 hs3
      rw [← hL] at el hlow
      rw [← hU] at eo
      clear hU hL hY hhy hsum htop hyl hB
      have a1 := and32 (a := (Y : Int)) (by omega) (by omega)
      have a2 := and32 (a := (L : Int)) (by omega) (by omega)
      have ht : IntKind.u64.wrap (Int.tdiv (U : Int) ((Y : Int) / 4294967296)) = (U : Int) / ((Y : Int) / 4294967296) := by
        rw [Int.tdiv_eq_ediv_of_nonneg (by omega)]
        have := Int.ediv_le_self ((Y : Int) / 4294967296) (show (0 : Int) ≤ (U : Int) by omega)
        have := Int.ediv_nonneg (show (0 : Int) ≤ (U : Int) by omega) (show (0 : Int) ≤ (Y : Int) / 4294967296 by omega)
        exact u64w (by omega) (by omega)
      have hq := Int.ediv_mul_le (U : Int) (show (Y : Int) / 4294967296 ≠ 0 by omega)
      have hq0 := Int.mul_nonneg (Int.ediv_nonneg (show (0 : Int) ≤ (U : Int) by omega) (show (0 : Int) ≤ (Y : Int) / 4294967296 by omega)) (show (0 : Int) ≤ (Y : Int) / 4294967296 by omega)
      have hp : IntKind.u64.wrap ((U : Int) / ((Y : Int) / 4294967296) * ((Y : Int) / 4294967296)) = (U : Int) / ((Y : Int) / 4294967296) * ((Y : Int) / 4294967296) := by
        generalize (U : Int) / ((Y : Int) / 4294967296) * ((Y : Int) / 4294967296) = A at *
        exact u64w (by omega) (by omega)
      have hd : IntKind.u64.wrap ((U : Int) - (U : Int) / ((Y : Int) / 4294967296) * ((Y : Int) / 4294967296)) = (U : Int) - (U : Int) / ((Y : Int) / 4294967296) * ((Y : Int) / 4294967296) := by
        generalize (U : Int) / ((Y : Int) / 4294967296) * ((Y : Int) / 4294967296) = A at *
        exact u64w (by omega) (by omega)
      have hall := Div_l0_all (Y : Int) ((Y : Int) / 4294967296) ((Y : Int) % 4294967296) (U : Int) ((L : Int) / 4294967296) ((L : Int) % 4294967296) (s : Int) ((M * 2 ^ s : Nat) : Int) (by omega) (by rw [hT]; omega) (by omega) (by omega) (by omega) (by omega) (by omega) (by omega) (by omega)
      rw [← Int.natCast_ediv, ← Int.natCast_emod, eq1, er1, er2] at hall
      refine Ev.congr (fun k => ?_) hall
      rw [if_pos (by omega), if_pos (by omega), ey, if_neg (by omega), eh, el, es, eo, a1, a2, ht, hp, hd]
theorem Div64_ev (hi lo y : Nat) (hy : hi < y) (hy2 : y < 18446744073709551616) (hlo : lo < 18446744073709551616) :
    Ev (fun k => bits_Div64.f k (hi : Int) (lo : Int) (y : Int)) ((((hi * 18446744073709551616 + lo) / y : Nat) : Int), (((hi * 18446744073709551616 + lo) % y : Nat) : Int)) := Div64_evM hi lo y _ rfl hy hy2 hlo
theorem Div64_int {hi lo y : Int} (h0 : 0 ≤ hi) (hy : hi < y) (hy2 : y < 18446744073709551616) (hlo0 : 0 ≤ lo) (hlo : lo < 18446744073709551616) :
    Ev (fun k => bits_Div64.f k hi lo y) ((hi * 18446744073709551616 + lo) / y, (hi * 18446744073709551616 + lo) % y) := by
  obtain ⟨a, rfl⟩ := Int.eq_ofNat_of_zero_le h0
  obtain ⟨b, rfl⟩ := Int.eq_ofNat_of_zero_le hlo0
  obtain ⟨c, rfl⟩ := Int.eq_ofNat_of_zero_le (show 0 ≤ y by omega)
  have h := Div64_ev a b c (by omega) (by omega) (by omega)
  rw [Int.natCast_ediv, Int.natCast_emod, Int.natCast_add, Int.natCast_mul] at h
  exact h
end Go.Proofs.Ytjfldeoddjicoaa.QLoadCountAddsUp
