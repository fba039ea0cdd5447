/- The references' numbers: sums, products and comparisons. Condition: the limbs are fewer than a million. -/
import Derived.Test.YtaoekkikpceccaaLRefA
namespace Go.Proofs.Ytaoekkikpceccaa.QLoadAdmitKeepsTheLimit
open Go.RowKit Go.Proofs.YtaoekkikpceccaaW.PrintWords Go.Proofs.YtaoekkikpceccaaW.PrintLast Go.Proofs.YtaoekkikpceccaaW.PrintMore
set_option linter.unusedVariables false
set_option linter.unusedSimpArgs false
theorem tmodD (s : Nat) : Int.tmod (s : Int) 10000 = ((s % 10000 : Nat) : Int) := by rw [Int.tmod_eq_emod_of_nonneg (by omega)]; omega
theorem tdivD (s : Nat) (h : s < 9000000000000000000) : wrap64 (Int.tdiv (s : Int) 10000) = ((s / 10000 : Nat) : Int) := by
  have e : Int.tdiv (s : Int) 10000 = ((s / 10000 : Nat) : Int) := by rw [Int.tdiv_eq_ediv_of_nonneg (by omega)]; omega
  rw [e]; exact wD (by omega) (by omega)
theorem wD2 (a b : Nat) (h : a + b < 9000000000000000000) : wrap64 ((a : Int) + (b : Int)) = ((a + b : Nat) : Int) := by rw [wD (by omega) (by omega)]; omega
theorem digits_add (A B c : Nat) : (A + B + c) % 10000 = (c + A % 10000 + B % 10000) % 10000 ∧ (A + B + c) / 10000 = A / 10000 + B / 10000 + (c + A % 10000 + B % 10000) / 10000 := by omega
theorem AddD_stop (a b out : List Int) (i : Nat) (h1 : ¬ i < a.length) (h2 : ¬ i < b.length) : Ev (fun k => dynamometerref0_Add.l0 k a b out 0 (i : Int)) out := by
  refine Ev.step (f := fun k => dynamometerref0_Add.j1 k a b out 0 (i : Int) false) (fun k => ?_) (Ev.step (f := fun _ => some out) (fun k => ?_) (Ev.now _))
  · simp only [dynamometerref0_Add.l0]
    rw [if_neg (by omega), if_neg (by omega)]
    rfl
  · simp only [dynamometerref0_Add.j1]
    rw [if_neg (by decide)]
theorem AddD_step (a b out : List Int) (A B c i : Nat) (r : List Int) (rA : rd a (i : Int) = ((A % 10000 : Nat) : Int)) (rB : rd b (i : Int) = ((B % 10000 : Nat) : Int)) (iA : i < a.length ↔ A ≠ 0) (iB : i < b.length ↔ B ≠ 0) (hc : c ≤ 1) (hi : i < 3000000) (co : out.length < 17592186044416) (hz : A + B + c ≠ 0)
    (h : Ev (fun k => dynamometerref0_Add.l0 k a b (out ++ [(((c + A % 10000 + B % 10000) % 10000 : Nat) : Int)]) (((c + A % 10000 + B % 10000) / 10000 : Nat) : Int) ((i + 1 : Nat) : Int)) r) : Ev (fun k => dynamometerref0_Add.l0 k a b out (c : Int) (i : Int)) r := by
  have RA := Aside0.mk rA
  have RB := Aside0.mk rB
  clear rA rB
  have ci : (0 : Int) ≤ (i : Int) := by omega
  have ma : A % 10000 < 10000 := Nat.mod_lt _ (by decide)
  have mb : B % 10000 < 10000 := Nat.mod_lt _ (by decide)
  have za : A = 0 → A % 10000 = 0 := by intro h; rw [h]
  have zb : B = 0 → B % 10000 = 0 := by intro h; rw [h]
  generalize A % 10000 = x at *
  generalize B % 10000 = y at *
  have hdA : (i : Int) < (a.length : Int) ↔ A ≠ 0 := by omega
  have hdB : (i : Int) < (b.length : Int) ↔ B ≠ 0 := by omega
  have s1 : c + x < 9000000000000000000 := by omega
  have s2 : c + x + y < 9000000000000000000 := by omega
  have s3 : c + y < 9000000000000000000 := by omega
  have s4 : c < 9000000000000000000 := by omega
  have s5 : i < 9000000 := by omega
  have s6 : A = 0 → B = 0 → (c : Int) > 0 := by intro h1 h2; omega
  clear hc hi hz iA iB ma mb
  have hj : Ev (fun k => dynamometerref0_Add.j1 k a b out (c : Int) (i : Int) true) r := by
    refine Ev.step (fun k => ?_) h
    have w3 := wDs i s5
    simp only [dynamometerref0_Add.j1]
    rw [if_pos trivial, RA.out, RB.out]
    by_cases hA0 : A = 0
    · have z1 := za hA0
      subst z1
      rw [if_neg (fun h => hdA.1 h hA0)]
      by_cases hB0 : B = 0
      · have z2 := zb hB0
        subst z2
        rw [if_neg (fun h => hdB.1 h hB0), if_pos co, Nat.add_zero, Nat.add_zero, tmodD, tdivD c s4, w3]
      · rw [if_pos (hdB.2 hB0), if_pos ci, if_pos co, Nat.add_zero, wD2 c y s3, tmodD, tdivD _ s3, w3]
    · rw [if_pos (hdA.2 hA0), if_pos ci, wD2 c x s1]
      by_cases hB0 : B = 0
      · have z2 := zb hB0
        subst z2
        rw [if_neg (fun h => hdB.1 h hB0), if_pos co, Nat.add_zero, tmodD, tdivD _ s1, w3]
      · rw [if_pos (hdB.2 hB0), if_pos co, wD2 (c + x) y s2, tmodD, tdivD _ s2, w3]
  refine Ev.step (fun k => ?_) hj
  simp only [dynamometerref0_Add.l0]
  by_cases hA0 : A = 0
  · rw [if_neg (fun h => hdA.1 h hA0)]
    by_cases hB0 : B = 0
    · rw [if_neg (fun h => hdB.1 h hB0), decide_eq_true (s6 hA0 hB0)]
    · rw [if_pos (hdB.2 hB0)]
  · rw [if_pos (hdA.2 hA0)]
theorem digits_le (A B c d : Nat) (hd : A + B + c ≤ d + 1) (hz : A + B + c ≠ 0) : A / 10000 + B / 10000 + (c + A % 10000 + B % 10000) / 10000 ≤ d := by omega
theorem carry_le (A B c : Nat) (hc : c ≤ 1) : (c + A % 10000 + B % 10000) / 10000 ≤ 1 := by omega
theorem AddD_l0 (m n : Nat) : ∀ (d i A B c : Nat) (out : List Int), A + B + c ≤ d → A = m / 10000 ^ i → B = n / 10000 ^ i → c ≤ 1 → i + (encD (A + B + c)).length < 2000000 → out.length + (encD (A + B + c)).length < 2000000 →
    Ev (fun k => dynamometerref0_Add.l0 k (encD m) (encD n) out (c : Int) (i : Int)) (out ++ encD (A + B + c)) := by
  intro d
  induction d with
  | zero =>
    intro i A B c out hd hA hB hc hi ho
    have iA : i < (encD m).length ↔ A ≠ 0 := by rw [len_encD_iff, ← hA]
    have iB : i < (encD n).length ↔ B ≠ 0 := by rw [len_encD_iff, ← hB]
    clear hA hB
    have hA0 : A = 0 := by omega
    have hB0 : B = 0 := by omega
    have hc0 : c = 0 := by omega
    subst hA0 hB0 hc0
    rw [encD_zero, List.append_nil]
    exact AddD_stop _ _ _ i (fun h => iA.1 h rfl) (fun h => iB.1 h rfl)
  | succ d ih =>
    intro i A B c out hd hA hB hc hi ho
    have iA : i < (encD m).length ↔ A ≠ 0 := by rw [len_encD_iff, ← hA]
    have iB : i < (encD n).length ↔ B ≠ 0 := by rw [len_encD_iff, ← hB]
    have rA : rd (encD m) (i : Int) = ((A % 10000 : Nat) : Int) := by rw [rd_encD, ← hA]
    have rB : rd (encD n) (i : Int) = ((B % 10000 : Nat) : Int) := by rw [rd_encD, ← hB]
    have hA2 : A / 10000 = m / 10000 ^ (i + 1) := by rw [div_pow_succ, hA]
    have hB2 : B / 10000 = n / 10000 ^ (i + 1) := by rw [div_pow_succ, hB]
    clear hA hB
    by_cases hz : A + B + c = 0
    · clear hA2 hB2
      have hA0 : A = 0 := by omega
      have hB0 : B = 0 := by omega
      have hc0 : c = 0 := by omega
      subst hA0 hB0 hc0
      rw [encD_zero, List.append_nil]
      exact AddD_stop _ _ _ i (fun h => iA.1 h rfl) (fun h => iB.1 h rfl)
    · obtain ⟨e1, e2⟩ := digits_add A B c
      have hle := digits_le A B c d hd hz
      have hcl := carry_le A B c hc
      rw [encD_pos hz, e1, e2]
      rw [encD_pos hz, e2, List.length_cons] at ho hi
      obtain ⟨N, hN⟩ : ∃ N, N = (encD (A / 10000 + B / 10000 + (c + A % 10000 + B % 10000) / 10000)).length := ⟨_, rfl⟩
      have hi2 : i + 1 + N < 2000000 := by rw [hN]; clear hA2 hB2 rA rB iA iB e1 e2 hle hN ih; omega
      have hi3 : i < 3000000 := by clear hA2 hB2 rA rB iA iB e1 e2 hle hN ih; omega
      have ho2 : (out ++ [(((c + A % 10000 + B % 10000) % 10000 : Nat) : Int)]).length + N < 2000000 := by
        rw [hN, List.length_append, List.length_singleton]; clear hA2 hB2 rA rB iA iB e1 e2 hle hN ih; omega
      have co : out.length < 17592186044416 := by clear hA2 hB2 rA rB iA iB e1 e2 hle hN ih; omega
      rw [hN] at hi2 ho2
      have h := ih (i + 1) _ _ _ _ hle hA2 hB2 hcl hi2 ho2
      rw [List.append_assoc, List.singleton_append] at h
      exact AddD_step _ _ _ A B c i _ rA rB iA iB hc hi3 co hz h
theorem AddD_ev (m n : Nat) (hs : (encD (m + n)).length < 100000) : Ev (fun k => dynamometerref0_Add.f k (encD m) (encD n)) (encD (m + n)) := by
  have h := AddD_l0 m n (m + n) 0 m n 0 [] (by omega) (by simp) (by simp) (by omega) (by rw [Nat.add_zero]; omega) (by rw [Nat.add_zero]; simp only [List.length_nil]; omega)
  rw [Nat.add_zero, List.nil_append] at h
  exact Ev.congr (fun k => rfl) h
theorem CmpD_l0 (m n : Nat) (hab : (encD m).length = (encD n).length) (hlen : (encD m).length < 1000000) : ∀ (i : Nat), i ≤ (encD m).length → m / 10000 ^ i = n / 10000 ^ i →
    Ev (fun k => dynamometerref0_Cmp.l0 k (encD m) (encD n) ((i : Int) - 1)) (if m < n then -1 else if m = n then 0 else 1) := by
  intro i
  induction i with
  | zero =>
    intro _ hv
    simp only [Nat.pow_zero, Nat.div_one] at hv
    rw [if_neg (by omega), if_pos hv]
    refine Ev.step (f := fun _ => some 0) (fun k => ?_) (Ev.now _)
    simp only [dynamometerref0_Cmp.l0]
    rw [if_neg (by omega)]
  | succ i ih =>
    intro hi hv
    rw [div_pow_succ, div_pow_succ] at hv
    have c0 : (i : Int) ≥ 0 := by omega
    have c1 : (i : Int) < ((encD m).length : Int) := by omega
    have c2 : (i : Int) < ((encD n).length : Int) := by omega
    have e1 : (((i + 1 : Nat) : Int) - 1) = (i : Int) := by omega
    have ra := rd_encD m i
    have rb := rd_encD n i
    have lt_of : m / 10000 ^ i < n / 10000 ^ i → m < n := by
      intro h
      by_cases hc : m < n
      · exact hc
      · exact absurd (Nat.div_le_div_right (c := 10000 ^ i) (show n ≤ m by omega)) (by omega)
    have gt_of : n / 10000 ^ i < m / 10000 ^ i → n < m := by
      intro h
      by_cases hc : n < m
      · exact hc
      · exact absurd (Nat.div_le_div_right (c := 10000 ^ i) (show m ≤ n by omega)) (by omega)
    generalize m / 10000 ^ i = A at *
    generalize n / 10000 ^ i = B at *
    by_cases hlt : A % 10000 < B % 10000
    · have := lt_of (by omega)
      rw [if_pos this]
      refine Ev.step (f := fun _ => some (-1)) (fun k => ?_) (Ev.now _)
      simp only [dynamometerref0_Cmp.l0, e1]
      rw [if_pos c0, if_pos c0, if_pos c1, if_pos c2, ra, rb, if_pos (by omega)]
    · by_cases hgt : B % 10000 < A % 10000
      · have := gt_of (by omega)
        rw [if_neg (by omega), if_neg (by omega)]
        refine Ev.step (f := fun _ => some 1) (fun k => ?_) (Ev.now _)
        simp only [dynamometerref0_Cmp.l0, e1]
        rw [if_pos c0, if_pos c0, if_pos c1, if_pos c2, ra, rb, if_neg (by omega), if_pos (by omega)]
      · have h := ih (by omega) (by omega)
        have hw := wDp i (by omega)
        refine Ev.step (fun k => ?_) h
        simp only [dynamometerref0_Cmp.l0, e1]
        rw [if_pos c0, if_pos c0, if_pos c1, if_pos c2, ra, rb, if_neg (by omega), if_neg (by omega), hw]
theorem CmpD_ev (m n : Nat) (hm : (encD m).length < 1000000) (hn : (encD n).length < 1000000) : Ev (fun k => dynamometerref0_Cmp.f k (encD m) (encD n)) (if m < n then -1 else if m = n then 0 else 1) := by
  by_cases h : (encD m).length = (encD n).length
  · have hdm : m / 10000 ^ (encD m).length = 0 := Nat.div_eq_of_lt (len_encD_lt m)
    have hdn : n / 10000 ^ (encD m).length = 0 := by rw [h]; exact Nat.div_eq_of_lt (len_encD_lt n)
    have h2 := CmpD_l0 m n h hm (encD m).length (Nat.le_refl _) (by rw [hdm, hdn])
    refine Ev.congr (fun k => ?_) h2
    simp only [dynamometerref0_Cmp.f]
    rw [if_pos (by omega), wD (by omega) (by omega)]
  · by_cases h2 : (encD m).length < (encD n).length
    · have h3 := encD_len_ge _ _ h2
      have h4 := len_encD_lt m
      rw [if_pos (by omega)]
      refine Ev.congr (fun k => ?_) (Ev.now _)
      simp only [dynamometerref0_Cmp.f]
      rw [if_neg (by omega), if_pos (by omega)]
    · have h3 := encD_len_ge _ _ (show (encD n).length < (encD m).length by omega)
      have h4 := len_encD_lt n
      rw [if_neg (by omega), if_neg (by omega)]
      refine Ev.congr (fun k => ?_) (Ev.now _)
      simp only [dynamometerref0_Cmp.f]
      rw [if_neg (by omega), if_neg (by omega)]
theorem mulD_ok (p c o : Int) (hp : 0 ≤ p ∧ p ≤ 99980001) (hc : 0 ≤ c ∧ c < 10000) (ho : 0 ≤ o ∧ o < 10000) :
    wrap64 (wrap64 (o + c) + wrap64 p) = o + c + p ∧ Int.tmod (o + c + p) 10000 = (o + c + p) % 10000 ∧ wrap64 (Int.tdiv (o + c + p) 10000) = (o + c + p) / 10000 ∧
    0 ≤ (o + c + p) % 10000 ∧ (o + c + p) % 10000 < 10000 ∧ 0 ≤ (o + c + p) / 10000 ∧ (o + c + p) / 10000 < 10000 ∧ (o + c + p) % 10000 + 10000 * ((o + c + p) / 10000) = o + c + p := by
  have e1 : wrap64 (o + c) = o + c := wD (by omega) (by omega)
  have e2 : wrap64 p = p := wD (by omega) (by omega)
  have e3 : wrap64 (o + c + p) = o + c + p := wD (by omega) (by omega)
  have e4 : Int.tdiv (o + c + p) 10000 = (o + c + p) / 10000 := Int.tdiv_eq_ediv_of_nonneg (by clear e1 e2 e3; omega)
  have e5 : wrap64 ((o + c + p) / 10000) = (o + c + p) / 10000 := wD (by clear e1 e2 e3 e4; omega) (by clear e1 e2 e3 e4; omega)
  refine ⟨by rw [e1, e2, e3], Int.tmod_eq_emod_of_nonneg (by clear e1 e2 e3 e4 e5; omega), by rw [e4, e5], ?_⟩
  clear e1 e2 e3 e4 e5
  omega
theorem mulD_carry (c o : Int) (hc : 0 ≤ c ∧ c < 10000) (ho : o = 0) : wrap64 (o + c) = c ∧ Int.tmod c 10000 = c ∧ wrap64 (Int.tdiv c 10000) = 0 := by
  subst ho
  have e4 : Int.tdiv c 10000 = 0 := by rw [Int.tdiv_eq_ediv_of_nonneg (by omega)]; omega
  refine ⟨?_, ?_, ?_⟩
  · rw [Int.zero_add]; exact wD (by omega) (by omega)
  · rw [Int.tmod_eq_emod_of_nonneg (by omega)]; omega
  · rw [e4]; exact wD (by omega) (by omega)
theorem step_mulD (vo P c vab X p o W1 Q : Int) (hv : vo + P * c = vab + X) (hq : W1 + 10000 * Q = o + c + p) : vo + P * (W1 - o) + P * 10000 * Q = vab + (X + P * p) := by
  have h : W1 = o + c + p - 10000 * Q := by omega
  rw [h]
  have e : P * (o + c + p - 10000 * Q - o) + P * 10000 * Q = P * c + P * p := by grind
  omega
theorem ring_mulD (Pi Pm x V y : Int) : Pi * (x * V) + Pi * Pm * (x * y) = Pi * (x * (V + Pm * y)) := by grind
theorem le_mulD {x y : Int} (hx : 0 ≤ x ∧ x < 10000) (hy : 0 ≤ y ∧ y < 10000) : 0 ≤ x * y ∧ x * y ≤ 99980001 :=
  ⟨Int.mul_nonneg hx.1 hy.1, Int.le_trans (Int.mul_le_mul (show x ≤ 9999 by omega) (show y ≤ 9999 by omega) hy.1 (by omega)) (by decide)⟩
theorem MulD_l1 (a b : List Int) (ha : limD a) (hb : limD b) (hlen : a.length + b.length < 1000000) (i : Nat) (hi : i < a.length) (r : List Int)
    (hnext : ∀ out : List Int, out.length = a.length + b.length → limD out → valD out = valD (a.take (i + 1)) * valD b → (∀ j : Nat, i + 1 + b.length ≤ j → j < a.length + b.length → rd out (j : Int) = 0) → Ev (fun k => dynamometerref0_Mul.l0 k a b out ((i + 1 : Nat) : Int)) r) :
    ∀ (d m : Nat) (out : List Int) (c : Int), m + d = b.length → out.length = a.length + b.length → limD out → (0 ≤ c ∧ c < 10000) →
    valD out + pwD (i + m) * c = valD (a.take i) * valD b + pwD i * (rd a (i : Int) * valD (b.take m)) → (∀ j : Nat, i + b.length ≤ j → j < a.length + b.length → rd out (j : Int) = 0) →
    Ev (fun k => dynamometerref0_Mul.l1 k a b out (i : Int) c (m : Int)) r := by
  have hai := rdD_lim ha i hi
  intro d
  induction d with
  | zero =>
    intro m out c hm ho hl hc hv hz
    have HV := Aside0.mk hv
    clear hv
    have hm' : m = b.length := by omega
    subst hm'
    have b1 : i + b.length < out.length := by omega
    have b2 : i + b.length < a.length + b.length := by omega
    have g1 : ¬ (b.length : Int) < (b.length : Int) := by omega
    have g2 : (0 : Int) ≤ ((i + b.length : Nat) : Int) := by omega
    have g3 : ((i + b.length : Nat) : Int) < (out.length : Int) := by omega
    have g4 : i + b.length < 9000000 := by omega
    have g5 : b.length < 9000000 := by omega
    have g6 : i < 9000000 := by omega
    have g7 : ∀ j : Nat, i + 1 + b.length ≤ j → i + b.length ≠ j ∧ i + b.length ≤ j := by intro j h; omega
    have g8 : ∀ j : Nat, j < a.length + b.length → j < out.length := by intro j h; omega
    have g9 : ¬ ((b.length + 1 : Nat) : Int) < (b.length : Int) := by omega
    have e0 : rd out ((i + b.length : Nat) : Int) = 0 := hz _ (Nat.le_refl _) b2
    have hw := wDa i b.length g4
    have hws := wDs b.length g5
    have hwi := wDs i g6
    have fin : valD (a.take i) * valD b + pwD i * (rd a (i : Int) * valD b) = valD (a.take (i + 1)) * valD b := by
      rw [valD_take a i hi, Int.add_mul, Int.mul_assoc]
    by_cases hc0 : c > 0
    · obtain ⟨q1, q2, q3⟩ := mulD_carry c _ hc e0
      have hn := hnext (out.set (i + b.length) c) (by rw [List.length_set]; exact ho) (limD_set hl _ hc.1 hc.2) (by
        rw [valD_set out (i + b.length) c b1, e0, Int.sub_zero, HV.out, List.take_of_length_le (Nat.le_refl _), fin]) (by
        intro j h1 h2
        rw [rdD_set_ne out (i + b.length) j c (g7 j h1).1 (g8 j h2)]
        exact hz j (g7 j h1).2 h2)
      refine Ev.step (f := fun k => dynamometerref0_Mul.j2 k a b out (i : Int) c (b.length : Int) true) (fun k => ?_) (Ev.step (f := fun k => dynamometerref0_Mul.l1 k a b (out.set (i + b.length) c) (i : Int) 0 ((b.length + 1 : Nat) : Int)) (fun k => ?_) (Ev.step (f := fun k => dynamometerref0_Mul.j2 k a b (out.set (i + b.length) c) (i : Int) 0 ((b.length + 1 : Nat) : Int) false) (fun k => ?_) (Ev.step (fun k => ?_) hn)))
      · simp only [dynamometerref0_Mul.l1]
        rw [if_neg g1, decide_eq_true hc0]
      · simp only [dynamometerref0_Mul.j2]
        rw [if_pos trivial, hw, if_pos g2, if_pos g3, if_neg g1, q1, q2, q3, Int.toNat_natCast, hws]
      · simp only [dynamometerref0_Mul.l1]
        rw [if_neg g9]
        rfl
      · simp only [dynamometerref0_Mul.j2]
        rw [if_neg (by decide), hwi]
    · have hcz : c = 0 := by have := hc.1; clear e0 hw hws hwi fin; omega
      subst hcz
      have hn := hnext out ho hl (by
        have h := HV.out
        rw [Int.mul_zero, Int.add_zero, List.take_of_length_le (Nat.le_refl _), fin] at h
        exact h) (fun j h1 h2 => hz j (g7 j h1).2 h2)
      refine Ev.step (f := fun k => dynamometerref0_Mul.j2 k a b out (i : Int) 0 (b.length : Int) false) (fun k => ?_) (Ev.step (fun k => ?_) hn)
      · simp only [dynamometerref0_Mul.l1]
        rw [if_neg g1]
        rfl
      · simp only [dynamometerref0_Mul.j2]
        rw [if_neg (by decide), hwi]
  | succ d ih0 =>
    intro m out c hm ho hl hc hv hz
    have HV := Aside0.mk hv
    clear hv
    have b1 : m < b.length := by omega
    have b2 : i + m < out.length := by omega
    have g1 : (m : Int) < (b.length : Int) := by omega
    have g2 : (0 : Int) ≤ (m : Int) := by omega
    have g3 : (0 : Int) ≤ ((i + m : Nat) : Int) := by omega
    have g4 : ((i + m : Nat) : Int) < (out.length : Int) := by omega
    have g5 : ∀ j : Nat, i + b.length ≤ j → i + m ≠ j := by intro j h; omega
    have g6 : ∀ j : Nat, j < a.length + b.length → j < out.length := by intro j h; omega
    have g7 : m + 1 + d = b.length := by omega
    have g8 : i + m < 9000000 := by omega
    have g9 : m < 9000000 := by omega
    have g10 : (0 : Int) ≤ (i : Int) := by omega
    have g11 : (i : Int) < (a.length : Int) := by omega
    have hbm := rdD_lim hb m b1
    have hom := rdD_lim hl (i + m) b2
    obtain ⟨q1, q2, q3, q4, q5, q6, q7, q8⟩ := mulD_ok _ c _ (le_mulD hai hbm) hc hom
    have hs := step_mulD _ _ _ _ _ _ _ _ _ HV.out q8
    have ih := ih0 (m + 1) (out.set (i + m) _) _ g7 (by rw [List.length_set]; exact ho) (limD_set hl _ q4 q5) ⟨q6, q7⟩ (by
      rw [valD_set out (i + m) _ b2, valD_take b m b1, show i + (m + 1) = i + m + 1 from rfl, pwD_succ, hs, pwD_add, ring_mulD]) (by
      intro j h1 h2
      rw [rdD_set_ne out (i + m) j _ (g5 j h1) (g6 j h2)]
      exact hz j h1 h2)
    have hw := wDa i m g8
    have hw1 := wDs m g9
    refine Ev.step (f := fun k => dynamometerref0_Mul.j2 k a b out (i : Int) c (m : Int) true) (fun k => ?_) (Ev.step (fun k => ?_) ih)
    · simp only [dynamometerref0_Mul.l1]
      rw [if_pos g1]
    · simp only [dynamometerref0_Mul.j2]
      rw [if_pos trivial, hw, if_pos g3, if_pos g4, if_pos g1, if_pos g10, if_pos g11, if_pos g2, q1, q2, q3, Int.toNat_natCast, hw1]
theorem MulD_l0 (a b : List Int) (ha : limD a) (hb : limD b) (hlen : a.length + b.length < 1000000) :
    ∀ (d i : Nat) (out : List Int), i + d = a.length → out.length = a.length + b.length → limD out → valD out = valD (a.take i) * valD b → (∀ j : Nat, i + b.length ≤ j → j < a.length + b.length → rd out (j : Int) = 0) →
    Ev (fun k => dynamometerref0_Mul.l0 k a b out (i : Int)) (encD (valD a * valD b).toNat) := by
  intro d
  induction d with
  | zero =>
    intro i out hi ho hl hv _
    have hi' : i = a.length := by omega
    subst hi'
    have hcut := trimmed_ev out hl (by omega)
    rw [hv, List.take_of_length_le (Nat.le_refl _)] at hcut
    refine Ev.step (f := fun k => (dynamometerref0_trimmed.f k out).bind fun t => some t) (fun k => ?_) (Ev.bind hcut (Ev.now _))
    simp only [dynamometerref0_Mul.l0]
    rw [if_neg (by omega)]
  | succ d ih =>
    intro i out hi ho hl hv hz
    have h := MulD_l1 a b ha hb hlen i (by omega) _ (fun out h1 h2 h3 h4 => ih (i + 1) out (by omega) h1 h2 h3 h4) b.length 0 out 0 (by omega) ho hl (by omega) (by
      rw [hv]; simp [valD]) hz
    refine Ev.step (fun k => ?_) h
    simp only [dynamometerref0_Mul.l0]
    rw [if_pos (by omega)]
    rfl
theorem MulD_ev (m n : Nat) (h : (encD m).length + (encD n).length < 1000000) : Ev (fun k => dynamometerref0_Mul.f k (encD m) (encD n)) (encD (m * n)) := by
  have h2 := MulD_l0 (encD m) (encD n) (limD_encD m) (limD_encD n) h (encD m).length 0 (List.replicate ((encD m).length + (encD n).length) 0) (by omega) (by simp) (limD_zeros _) (by rw [valD_zeros]; simp [valD]) (fun j _ _ => rdD_zeros _ j)
  rw [valD_encD, valD_encD, ← Int.natCast_mul, Int.toNat_natCast] at h2
  refine Ev.congr (fun k => ?_) h2
  simp only [dynamometerref0_Mul.f]
  rw [wDa _ _ (by omega), if_pos (by omega), Int.toNat_natCast, if_pos (by omega)]
  rfl
end Go.Proofs.Ytaoekkikpceccaa.QLoadAdmitKeepsTheLimit
