/- Package nat: the product. Condition: the limbs of both together are fewer than a million. -/
import Derived.Test.YtjfldeoddjicoaaLNb
namespace Go.Proofs.Ytjfldeoddjicoaa.QLoadCountAddsUp
open Go.RowKit Go.Proofs.YtjfldeoddjicoaaW.PrintWords Go.Proofs.YtjfldeoddjicoaaW.PrintLast Go.Proofs.YtjfldeoddjicoaaW.PrintMore
set_option linter.unusedVariables false
set_option linter.unusedSimpArgs false
theorem and32 {a : Int} (h0 : 0 ≤ a) (h1 : a < 18446744073709551616) : Go.bits .and .u64 a 4294967295 = a % 4294967296 := by
  obtain ⟨n, rfl⟩ := Int.eq_ofNat_of_zero_le h0
  have h := bits_and_u64_nat n 4294967295 (by omega) (by omega)
  rw [show n &&& 4294967295 = n % 4294967296 from Nat.and_two_pow_sub_one_eq_mod n 32] at h
  exact h.trans (by omega)
theorem pbound {a b : Int} (ha : 0 ≤ a) (ha' : a ≤ 4294967295) (hb : 0 ≤ b) (hb' : b ≤ 4294967295) : 0 ≤ a * b ∧ a * b ≤ 18446744065119617025 :=
  ⟨Int.mul_nonneg ha hb, Int.le_trans (Int.mul_le_mul ha' hb' hb (by omega)) (by decide)⟩
theorem mul64_arith {a b p11 p10 p01 p00 : Int} (hab : a * b = p11 * 18446744073709551616 + (p10 + p01) * 4294967296 + p00)
    (h11 : 0 ≤ p11 ∧ p11 ≤ 18446744065119617025) (h10 : 0 ≤ p10 ∧ p10 ≤ 18446744065119617025) (h01 : 0 ≤ p01 ∧ p01 ≤ 18446744065119617025) (h00 : 0 ≤ p00 ∧ p00 ≤ 18446744065119617025) :
    p11 + (p10 + p00 / 4294967296) / 4294967296 + ((p10 + p00 / 4294967296) % 4294967296 + p01) / 4294967296 = a * b / 18446744073709551616 := by
  omega
theorem Mul64_eq {a b : Int} (ha : 0 ≤ a ∧ a < 18446744073709551616) (hb : 0 ≤ b ∧ b < 18446744073709551616) :
    bits_Mul64.f a b = some (a * b / 18446744073709551616, a * b % 18446744073709551616) := by
  have ea := Int.mul_ediv_add_emod a 4294967296
  have eb := Int.mul_ediv_add_emod b 4294967296
  have a1 : 0 ≤ a / 4294967296 ∧ a / 4294967296 ≤ 4294967295 := by omega
  have a0 : 0 ≤ a % 4294967296 ∧ a % 4294967296 ≤ 4294967295 := by omega
  have b1 : 0 ≤ b / 4294967296 ∧ b / 4294967296 ≤ 4294967295 := by omega
  have b0 : 0 ≤ b % 4294967296 ∧ b % 4294967296 ≤ 4294967295 := by omega
  have h11 := pbound a1.1 a1.2 b1.1 b1.2
  have h10 := pbound a1.1 a1.2 b0.1 b0.2
  have h01 := pbound a0.1 a0.2 b1.1 b1.2
  have h00 := pbound a0.1 a0.2 b0.1 b0.2
  unfold bits_Mul64.f
  rw [and32 ha.1 ha.2, and32 hb.1 hb.2]
  generalize hA1 : a / 4294967296 = A1 at *
  generalize hA0 : a % 4294967296 = A0 at *
  generalize hB1 : b / 4294967296 = B1 at *
  generalize hB0 : b % 4294967296 = B0 at *
  have hab : a * b = A1 * B1 * 18446744073709551616 + (A1 * B0 + A0 * B1) * 4294967296 + A0 * B0 := by
    rw [← ea, ← eb]; grind
  generalize A1 * B1 = p11 at *
  generalize A1 * B0 = p10 at *
  generalize A0 * B1 = p01 at *
  generalize A0 * B0 = p00 at *
  rw [u64w (n := p11) (by omega) (by omega), u64w (n := p10) (by omega) (by omega), u64w (n := p01) (by omega) (by omega), u64w (n := p00) (by omega) (by omega)]
  rw [u64w (n := p10 + p00 / 4294967296) (by omega) (by omega)]
  rw [and32 (a := p10 + p00 / 4294967296) (by omega) (by omega)]
  rw [u64w (n := (p10 + p00 / 4294967296) % 4294967296 + p01) (by omega) (by omega)]
  rw [u64m (a * b)]
  have hm := mul64_arith hab h11 h10 h01 h00
  have hlt : a * b / 18446744073709551616 < 18446744073709551616 := by omega
  rw [u64w (n := p11 + (p10 + p00 / 4294967296) / 4294967296) (by omega) (by omega), hm, u64w (n := a * b / 18446744073709551616) (by omega) hlt]
theorem val_set : ∀ (xs : List Int) (i : Nat) (v : Int), i < xs.length → val (xs.set i v) = val xs + pw i * (v - rd xs (i : Int)) := by
  intro xs
  induction xs with
  | nil => intro i v h; simp at h
  | cons x xs ih =>
    intro i v h
    cases i with
    | zero =>
      have e : rd (x :: xs) ((0 : Nat) : Int) = x := by simp [rd]
      rw [e, List.set_cons_zero, pw_zero]; simp only [val]; omega
    | succ i =>
      have e : rd (x :: xs) ((i + 1 : Nat) : Int) = rd xs (i : Int) := by
        rw [rd_nat (x :: xs) (i + 1) h, rd_nat xs i (by simpa using h)]; rfl
      rw [e, List.set_cons_succ, pw_succ]; simp only [val]; rw [ih i v (by simpa using h)]
      generalize val xs = V; generalize rd xs (i : Int) = R; generalize pw i = P
      rw [Int.mul_add, Int.mul_right_comm P, Int.mul_comm 18446744073709551616 (P * (v - R))]; omega
theorem pw_add (i j : Nat) : pw (i + j) = pw i * pw j := by
  rw [pw_nat, pw_nat, pw_nat, Nat.pow_add]; exact Int.natCast_mul _ _
theorem rd_set_ne (xs : List Int) (i j : Nat) (v : Int) (h : i ≠ j) (hj : j < xs.length) : rd (xs.set i v) (j : Int) = rd xs (j : Int) := by
  rw [rd_nat _ j (by simpa using hj), rd_nat _ j hj, List.getElem_set_ne h]
theorem mul_carry0 {p c o : Int} (h0 : 0 ≤ p) (h1 : p ≤ 340282366920938463426481119284349108225) (hc : 0 ≤ c ∧ c < 18446744073709551616) (ho : 0 ≤ o ∧ o < 18446744073709551616) :
    IntKind.u64.wrap (IntKind.u64.wrap (p / 18446744073709551616 + (p % 18446744073709551616 + c) / 18446744073709551616) + (o + (p % 18446744073709551616 + c) % 18446744073709551616) / 18446744073709551616) = (o + p + c) / 18446744073709551616 ∧ (o + (p % 18446744073709551616 + c) % 18446744073709551616) % 18446744073709551616 = (o + p + c) % 18446744073709551616
      ∧ 0 ≤ (o + p + c) / 18446744073709551616 ∧ (o + p + c) / 18446744073709551616 < 18446744073709551616 := by
  have e1 : 0 ≤ p / 18446744073709551616 + (p % 18446744073709551616 + c) / 18446744073709551616 ∧ p / 18446744073709551616 + (p % 18446744073709551616 + c) / 18446744073709551616 < 18446744073709551616 := by omega
  have e2 : 0 ≤ p / 18446744073709551616 + (p % 18446744073709551616 + c) / 18446744073709551616 + (o + (p % 18446744073709551616 + c) % 18446744073709551616) / 18446744073709551616 ∧ p / 18446744073709551616 + (p % 18446744073709551616 + c) / 18446744073709551616 + (o + (p % 18446744073709551616 + c) % 18446744073709551616) / 18446744073709551616 < 18446744073709551616 := by omega
  rw [u64w e1.1 e1.2, u64w e2.1 e2.2]
  omega
theorem mul_le_max {x y : Int} (hx : 0 ≤ x ∧ x < 18446744073709551616) (hy : 0 ≤ y ∧ y < 18446744073709551616) : 0 ≤ x * y ∧ x * y ≤ 340282366920938463426481119284349108225 :=
  ⟨Int.mul_nonneg hx.1 hy.1, Int.le_trans (Int.mul_le_mul (show x ≤ 18446744073709551615 by omega) (show y ≤ 18446744073709551615 by omega) hy.1 (by omega)) (by decide)⟩
theorem step_mul (vo P c vab X xy o W1 : Int) (hv : vo + P * c = vab + X) (hq : W1 + 18446744073709551616 * ((o + xy + c) / 18446744073709551616) = o + xy + c) : vo + P * (W1 - o) + P * 18446744073709551616 * ((o + xy + c) / 18446744073709551616) = vab + (X + P * xy) := by
  generalize (o + xy + c) / 18446744073709551616 = Q at *
  have : W1 = o + xy + c - 18446744073709551616 * Q := by omega
  subst this
  rw [show o + xy + c - 18446744073709551616 * Q - o = xy + c - 18446744073709551616 * Q by omega, Int.mul_sub, Int.mul_add, Int.mul_assoc]
  omega
theorem Mul_l1 (a b : List Int) (ha : lim a) (hb : lim b) (hlen : a.length + b.length < 1000000) (i : Nat) (hi : i < a.length) (r : List Int)
    (hnext : ∀ out : List Int, out.length = a.length + b.length → lim out → val out = val (a.take (i + 1)) * val b → (∀ j : Nat, i + 1 + b.length ≤ j → j < a.length + b.length → rd out (j : Int) = 0) → Ev (fun k => nat_Mul.l0 k b out a (a.length : Int) ((i + 1 : Nat) : Int)) r) :
    ∀ (d m : Nat) (out : List Int) (c : Int), m + d = b.length → out.length = a.length + b.length → lim out → (0 ≤ c ∧ c < 18446744073709551616) →
    val out + pw (i + m) * c = val (a.take i) * val b + pw i * (rd a (i : Int) * val (b.take m)) → (∀ j : Nat, i + b.length ≤ j → j < a.length + b.length → rd out (j : Int) = 0) →
    Ev (fun k => nat_Mul.l1 k b out (i : Int) (rd a (i : Int)) c a (a.length : Int) (i : Int) b (b.length : Int) (m : Int)) r := by
  have hai := rd_lim ha i hi
  intro d
  induction d with
  | zero =>
    intro m out c hm ho hl hc hv hz
    have HV := Aside0.mk hv
    clear hv
    have hm' : m = b.length := by omega
    subst hm'
    have e0 : rd out ((i + b.length : Nat) : Int) = 0 := hz _ (Nat.le_refl _) (by omega)
    have hn := hnext (out.set (i + b.length) c) (by simpa using ho) (lim_set hl _ hc.1 hc.2) (by
      rw [val_set out (i + b.length) c (by omega), e0, Int.sub_zero, HV.out, List.take_of_length_le (Nat.le_refl _), val_take a i hi, Int.add_mul, Int.mul_assoc]) (by
      intro j h1 h2
      rw [rd_set_ne out (i + b.length) j c (by omega) (by omega)]
      exact hz j (by omega) h2)
    refine Ev.step (fun k => ?_) hn
    have hw : wrap64 ((i : Int) + (b.length : Int)) = ((i + b.length : Nat) : Int) := by rw [w64 (by omega) (by omega)]; omega
    have hw1 : wrap64 ((i : Int) + 1) = ((i + 1 : Nat) : Int) := by rw [w64 (by omega) (by omega)]; omega
    simp only [nat_Mul.l1]
    rw [if_neg (by omega), hw, if_pos (by omega), if_pos (by omega), Int.toNat_natCast, hw1]
  | succ d ih0 =>
    intro m out c hm ho hl hc hv hz
    have HV := Aside0.mk hv
    clear hv
    have b1 : m < b.length := by omega
    have b2 : i + m < out.length := by omega
    have g1 : (m : Int) < (b.length : Int) := by omega
    have g2 : 0 ≤ (m : Int) := by omega
    have g3 : 0 ≤ ((i + m : Nat) : Int) := by omega
    have g4 : ((i + m : Nat) : Int) < (out.length : Int) := by omega
    have g5 : ∀ j : Nat, i + b.length ≤ j → i + m ≠ j := by intro j h; omega
    have g6 : ∀ j : Nat, j < a.length + b.length → j < out.length := by intro j h; omega
    have g7 : m + 1 + d = b.length := by omega
    have hw : wrap64 ((i : Int) + (m : Int)) = ((i + m : Nat) : Int) := by rw [w64 (by omega) (by omega)]; omega
    have hw1 : wrap64 ((m : Int) + 1) = ((m + 1 : Nat) : Int) := by rw [w64 (by omega) (by omega)]; omega
    have ho' : ∀ v, (out.set (i + m) v).length = a.length + b.length := by intro v; simpa using ho
    clear hm hlen
    have hbm := rd_lim hb m b1
    have hom := rd_lim hl (i + m) b2
    have hp := mul_le_max hai hbm
    have hq := mul_carry0 hp.1 hp.2 hc hom
    have hp2 : 0 ≤ rd a (i : Int) * rd b (m : Int) % 18446744073709551616 := Int.emod_nonneg _ (by decide)
    have hdm := Int.emod_add_mul_ediv (rd out ((i + m : Nat) : Int) + rd a (i : Int) * rd b (m : Int) + c) 18446744073709551616
    have hs := step_mul _ _ _ _ _ (rd a (i : Int) * rd b (m : Int)) (rd out ((i + m : Nat) : Int)) _ HV.out hdm
    have hlow := And.intro (Int.emod_nonneg (rd out ((i + m : Nat) : Int) + rd a (i : Int) * rd b (m : Int) + c) (show (18446744073709551616 : Int) ≠ 0 by decide)) (Int.emod_lt_of_pos (rd out ((i + m : Nat) : Int) + rd a (i : Int) * rd b (m : Int) + c) (show (0 : Int) < 18446744073709551616 by decide))
    have ih := ih0 (m + 1) (out.set (i + m) ((rd out ((i + m : Nat) : Int) + rd a (i : Int) * rd b (m : Int) + c) % 18446744073709551616)) ((rd out ((i + m : Nat) : Int) + rd a (i : Int) * rd b (m : Int) + c) / 18446744073709551616) g7 (ho' _) (lim_set hl _ hlow.1 hlow.2) hq.2.2 (by
      rw [val_set out (i + m) _ b2, val_take b m b1, show i + (m + 1) = i + m + 1 from rfl, pw_succ, hs, pw_add]
      rw [Int.mul_add (rd a (i : Int)), Int.mul_add (pw i), Int.mul_assoc (pw i), Int.mul_left_comm (rd a (i : Int)) (pw m)]) (by
      intro j h1 h2
      rw [rd_set_ne out (i + m) j _ (g5 j h1) (g6 j h2)]
      exact hz j h1 h2)
    clear hs hdm HV ih0 hnext
    refine Ev.step (fun k => ?_) ih
    simp only [nat_Mul.l1]
    rw [if_pos g1, if_pos g2, if_pos g1, Mul64_eq hai hbm, Option.bind_some]
    simp only []
    rw [if_pos hp2, if_pos hc.1, hw, if_pos g3, if_pos g4, if_pos hom.1, Int.toNat_natCast, hq.1, hq.2.1, hw1]
theorem val_zeros (n : Nat) : val (List.replicate n 0) = 0 := by
  induction n with
  | zero => rfl
  | succ n ih => rw [List.replicate_succ]; simp only [val]; omega
theorem rd_zeros (n j : Nat) : rd (List.replicate n (0 : Int)) (j : Int) = 0 := by
  by_cases h : j < n
  · rw [rd_nat _ j (by simpa using h)]; simp
  · simp [rd, List.getD_eq_getElem?_getD, h]
theorem Mul_l0 (a b : List Int) (ha : lim a) (hb : lim b) (hlen : a.length + b.length < 1000000) :
    ∀ (d i : Nat) (out : List Int), i + d = a.length → out.length = a.length + b.length → lim out → val out = val (a.take i) * val b → (∀ j : Nat, i + b.length ≤ j → j < a.length + b.length → rd out (j : Int) = 0) →
    Ev (fun k => nat_Mul.l0 k b out a (a.length : Int) (i : Int)) (enc (val a * val b).toNat) := by
  intro d
  induction d with
  | zero =>
    intro i out hi ho hl hv _
    have hi' : i = a.length := by omega
    subst hi'
    have hcut := cut_ev _ out ho hl (by omega)
    rw [hv, List.take_of_length_le (Nat.le_refl _)] at hcut
    refine Ev.step (f := fun k => (nat_cut.f k out).bind fun t => some t) (fun k => ?_) (Ev.bind hcut (Ev.now _))
    simp only [nat_Mul.l0]
    rw [if_neg (by omega)]
  | succ d ih =>
    intro i out hi ho hl hv hz
    have h := Mul_l1 a b ha hb hlen i (by omega) _ (fun out h1 h2 h3 h4 => ih (i + 1) out (by omega) h1 h2 h3 h4) b.length 0 out 0 (by omega) ho hl (by omega) (by
      rw [hv]; simp [val]) hz
    refine Ev.step (fun k => ?_) h
    simp only [nat_Mul.l0]
    rw [if_pos (by omega), if_pos (by omega), if_pos (by omega)]
    rfl
theorem Mul_lists (a b : List Int) (ha : lim a) (hb : lim b) (hlen : a.length + b.length < 1000000) : Ev (fun k => nat_Mul.f k a b) (enc (val a * val b).toNat) := by
  have h := Mul_l0 a b ha hb hlen a.length 0 (List.replicate (a.length + b.length) 0) (by omega) (by simp) (lim_zeros _) (by rw [val_zeros]; simp [val]) (fun j _ _ => rd_zeros _ j)
  refine Ev.congr (fun k => ?_) h
  simp only [nat_Mul.f]
  have hw : wrap64 ((a.length : Int) + (b.length : Int)) = ((a.length + b.length : Nat) : Int) := by rw [w64 (by omega) (by omega)]; omega
  rw [hw, if_pos (by omega), Int.toNat_natCast, if_pos (by omega)]
  rfl
theorem Mul_ev (m n : Nat) (h : (enc m).length + (enc n).length < 1000000) : Ev (fun k => nat_Mul.f k (enc m) (enc n)) (enc (m * n)) := by
  have := Mul_lists _ _ (lim_enc m) (lim_enc n) h
  rw [val_enc, val_enc, ← Int.natCast_mul, Int.toNat_natCast] at this
  exact this
end Go.Proofs.Ytjfldeoddjicoaa.QLoadCountAddsUp
