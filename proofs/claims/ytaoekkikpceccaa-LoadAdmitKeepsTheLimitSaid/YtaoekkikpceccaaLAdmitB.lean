/- Package load: the times that Admit returns keep the limit. Condition: Admit returns no error. -/
import Derived.Test.YtaoekkikpceccaaLAdmitA
import Derived.KernelRfl
namespace Go.Proofs.Ytaoekkikpceccaa.QLoadAdmitKeepsTheLimit
open Go.RowKit Go.Proofs.YtaoekkikpceccaaW.PrintWords Go.Proofs.YtaoekkikpceccaaW.PrintLast Go.Proofs.YtaoekkikpceccaaW.PrintMore
set_option linter.unusedVariables false
set_option linter.unusedSimpArgs false
structure Inv (R r : Int) (l out : List Int) (i : Nat) (h a : Int) : Prop where
  len : out.length = i
  lev : 0 ≤ h ∧ h ≤ R
  now : 0 ≤ a ∧ a ≤ 1000000000000 + 1000000000 * (i : Int)
  late : ∀ j : Nat, j < i → rd l (j : Int) ≤ rd out (j : Int) ∧ 0 ≤ rd out (j : Int) ∧ rd out (j : Int) ≤ a
  mono : ∀ j : Nat, j + 1 < i → rd out (j : Int) ≤ rd out ((j + 1 : Nat) : Int)
  up : ∀ p q : Nat, p ≤ q → q < i → rd out (p : Int) ≤ rd out (q : Int)
  left : ∀ p : Nat, p < i → h + ((i : Int) - (p : Int)) * 1000000000 ≤ R + r * (a - rd out (p : Int))
  all : ∀ p q : Nat, p ≤ q → q < i → ((q : Int) - (p : Int) + 1) * 1000000000 ≤ R + r * (rd out (q : Int) - rd out (p : Int))
theorem rd_snoc_lt (xs : List Int) (v : Int) (j : Nat) (h : j < xs.length) : rd (xs ++ [v]) (j : Int) = rd xs (j : Int) := by
  rw [rdD_nat _ j (by rw [List.length_append]; omega), rdD_nat _ j h, List.getElem_append_left h]
theorem rd_snoc (xs : List Int) (v : Int) : rd (xs ++ [v]) (xs.length : Int) = v := by
  rw [rdD_nat _ _ (by rw [List.length_append]; simp), List.getElem_append_right (Nat.le_refl _)]
  simp
theorem Inv_snoc {R r : Int} {l out : List Int} {i : Nat} {h a h' a' : Int} (hR : 1000000000 ≤ R) (hr : 0 ≤ r) (I : Inv R r l out i h a) (t1 : rd l (i : Int) ≤ a') (t2 : a ≤ a') (t3 : 0 ≤ h') (t4 : h' + 1000000000 ≤ R) (t5 : h' + 1000000000 ≤ h + r * (a' - a)) (t6 : a' ≤ 1000000000000 + 1000000000 * ((i + 1 : Nat) : Int)) :
    Inv R r l (out ++ [a']) (i + 1) h' a' := by
  have e := rd_snoc out a'
  rw [I.len] at e
  have el : ∀ j : Nat, j < i → rd (out ++ [a']) (j : Int) = rd out (j : Int) := fun j hj => rd_snoc_lt out a' j (by rw [I.len]; exact hj)
  have hup : ∀ p : Nat, p ≤ i → rd (out ++ [a']) (p : Int) ≤ a' := by
    intro p hp
    by_cases h1 : p < i
    · rw [el p h1]
      have := (I.late p h1).2.2
      omega
    · rw [show p = i by omega, e]
      exact Int.le_refl _
  have hleft : ∀ p : Nat, p < i + 1 → h' + (((i + 1 : Nat) : Int) - (p : Int)) * 1000000000 ≤ R + r * (a' - rd (out ++ [a']) (p : Int)) := by
    intro p hp
    by_cases h1 : p < i
    · rw [el p h1]
      have h2 := I.left p h1
      have e2 : r * (a' - rd out (p : Int)) = r * (a' - a) + r * (a - rd out (p : Int)) := by grind
      rw [e2]
      generalize r * (a' - a) = X at *
      generalize r * (a - rd out (p : Int)) = Y at *
      omega
    · rw [show p = i by omega, e]
      have e2 : r * (a' - a') = 0 := by rw [Int.sub_self, Int.mul_zero]
      rw [e2]
      omega
  refine ⟨by rw [List.length_append, I.len]; rfl, ⟨t3, by omega⟩, ⟨by have := I.now; omega, t6⟩, ?_, ?_, ?_, hleft, ?_⟩
  · intro j hj
    by_cases h1 : j < i
    · have h2 := I.late j h1
      rw [el j h1]
      omega
    · have h2 := I.now
      rw [show j = i by omega, e]
      exact ⟨t1, by omega, Int.le_refl _⟩
  · intro j hj
    by_cases h1 : j + 1 < i
    · rw [el j (by omega), el (j + 1) h1]
      exact I.mono j h1
    · rw [show j + 1 = i by omega, e]
      exact hup j (by omega)
  · intro p q hpq hq
    by_cases h1 : q < i
    · rw [el p (by omega), el q h1]
      exact I.up p q hpq h1
    · rw [show q = i by omega, e]
      exact hup p (by omega)
  · intro p q hpq hq
    by_cases h1 : q < i
    · rw [el p (by omega), el q h1]
      exact I.all p q hpq h1
    · have h2 := hleft p (by omega)
      have hq2 : q = i := by omega
      subst hq2
      rw [e]
      generalize r * (a' - rd (out ++ [a']) (p : Int)) = X at *
      omega
theorem Admit_l0 (R r : Int) (l : List Int) (hR0 : 1000000000 ≤ R) (hR : R ≤ 1000000000000000) (hr : 0 ≤ r ∧ r ≤ 1000000000) (hl : l.length ≤ 20000) (ht : ∀ j : Nat, j < l.length → 0 ≤ rd l (j : Int) ∧ rd l (j : Int) ≤ 1000000000000) :
    ∀ (d i : Nat) (late : Bool) (out : List Int) (h a : Int), i + d = l.length → Inv R r l out i h a →
    ∃ (out' : List Int) (e : Int), Ev (fun k => load_Admit.l0 k late out l (l.length : Int) (i : Int) R r h a) (out', e) ∧ (e = 0 → ∃ h' a' : Int, Inv R r l out' l.length h' a') := by
  intro d
  induction d with
  | zero =>
    intro i late out h a hi I
    have hi' : i = l.length := by omega
    subst hi'
    have c1 : ¬ (l.length : Int) < (l.length : Int) := by omega
    cases late with
    | true =>
      refine ⟨[], 3, Ev.step (f := fun _ => some _) (fun k => ?_) (Ev.now _), fun h => absurd h (by decide)⟩
      simp only [load_Admit.l0]
      rw [if_neg c1, if_pos trivial]
    | false =>
      refine ⟨out, 0, Ev.step (f := fun _ => some _) (fun k => ?_) (Ev.now _), fun _ => ⟨h, a, I⟩⟩
      simp only [load_Admit.l0]
      rw [if_neg c1, if_neg (by decide)]
  | succ d ih =>
    intro i late out h a hi I
    have c1 : (i : Int) < (l.length : Int) := by omega
    have c2 : (0 : Int) ≤ (i : Int) := by omega
    have c3 : i < 9000000 := by omega
    have hnow := I.now
    have hti := ht i (by omega)
    have hol := I.len
    have c4 : out.length < 17592186044416 := by omega
    rcases take_good R r h a (rd l (i : Int)) hR0 hR hr I.lev ⟨hnow.1, by omega⟩ hti with ⟨v, f1⟩ | ⟨h', a', f1, t1, t2, t3, t4, t5, t6⟩
    · refine ⟨[], 4, ?_, fun h => absurd h (by decide)⟩
      refine Ev.step (f := fun k => (load_vessel_take.f k R r h a (rd l (i : Int))).bind _) (fun k => by simp only [load_Admit.l0]; rw [if_pos c1, if_pos c2, if_pos c1]) (Ev.bind f1 (Ev.congr (fun k => ?_) (Ev.now _)))
      simp only []
      rw [if_neg (by decide)]
    · have I2 := Inv_snoc hR0 hr.1 I t1 t2 t3 t4 t5 (by omega)
      have hw := wDs i c3
      have HW := Aside0.mk hw
      clear hw
      cases late with
      | true =>
        obtain ⟨out', e, g1, g2⟩ := ih (i + 1) true (out ++ [a']) h' a' (by omega) I2
        refine ⟨out', e, ?_, g2⟩
        refine Ev.step (f := fun k => (load_vessel_take.f k R r h a (rd l (i : Int))).bind _) (fun k => by simp only [load_Admit.l0]; rw [if_pos c1, if_pos c2, if_pos c1]) (Ev.bind f1 (Ev.congr (fun k => ?_) g1))
        simp only []
        rw [if_pos trivial, if_pos trivial, if_pos c4, HW.out]
      | false =>
        obtain ⟨out', e, g1, g2⟩ := ih (i + 1) (decide (a' > 1000000000000)) (out ++ [a']) h' a' (by omega) I2
        refine ⟨out', e, ?_, g2⟩
        refine Ev.step (f := fun k => (load_vessel_take.f k R r h a (rd l (i : Int))).bind _) (fun k => by simp only [load_Admit.l0]; rw [if_pos c1, if_pos c2, if_pos c1]) (Ev.bind f1 (Ev.congr (fun k => ?_) g1))
        simp only []
        rw [if_pos trivial, if_neg (by decide), if_pos c4, HW.out]
theorem Admit_ev (l : List Int) (r b : Int) : ∃ (out : List Int) (e : Int), Ev (fun k => load_Admit.f k l r b) (out, e) ∧
    (e = 0 → 0 ≤ r ∧ r ≤ 1000000000 ∧ 1 ≤ b ∧ b ≤ 1000000 ∧ l.length ≤ 20000 ∧ ∃ h a : Int, Inv (b * 1000000000) r l out l.length h a) := by
  obtain ⟨e, h1, h2⟩ := times_ev l
  by_cases he : e = 0
  · subst he
    obtain ⟨hl, ht⟩ := h2 rfl
    by_cases hok : 0 ≤ r ∧ r ≤ 1000000000 ∧ 1 ≤ b ∧ b ≤ 1000000
    · obtain ⟨k1, k2, k3, k4⟩ := hok
      have I0 : Inv (b * 1000000000) r l [] 0 (b * 1000000000) 0 := ⟨rfl, ⟨by omega, by omega⟩, ⟨by omega, by omega⟩, fun j hj => absurd hj (by omega), fun j hj => absurd hj (by omega), fun p q _ hq => absurd hq (by omega), fun p hp => absurd hp (by omega), fun p q _ hq => absurd hq (by omega)⟩
      obtain ⟨out, e, g1, g2⟩ := Admit_l0 (b * 1000000000) r l (by omega) (by omega) ⟨k1, k2⟩ hl ht l.length 0 false [] (b * 1000000000) 0 (by omega) I0
      have hw : wrap64 (b * 1000000000) = b * 1000000000 := wD (by omega) (by omega)
      have c1 : (0 : Int) ≤ (l.length : Int) := by clear hw; omega
      have c2 : l.length ≤ 35184372088832 := by clear hw; omega
      have c3 : ¬ b > 1000000 := by clear hw; omega
      have c4 : ¬ r < 0 := by clear hw; omega
      have c5 : ¬ r > 1000000000 := by clear hw; omega
      have c6 : ¬ b < 1 := by clear hw; omega
      refine ⟨out, e, ?_, fun he => ⟨k1, k2, k3, k4, hl, g2 he⟩⟩
      have hj : Ev (fun k => load_Admit.j0 k l r b false) (out, e) := by
        refine Ev.step (fun k => ?_) g1
        simp only [load_Admit.j0]
        rw [if_neg (by decide), if_pos c1, Int.toNat_natCast, if_pos c2, hw]
        rfl
      unfold load_Admit.f
      refine Ev.bind h1 (Ev.congr (fun k => ?_) hj)
      rw [if_pos rfl, if_neg c4, if_neg c5, if_neg c6, decide_eq_false c3]
    · refine ⟨[], 9, ?_, fun h => absurd h (by decide)⟩
      have hj : Ev (fun k => load_Admit.j0 k l r b true) ([], 9) := by
        refine Ev.step (f := fun _ => some _) (fun k => ?_) (Ev.now _)
        simp only [load_Admit.j0]
        rw [if_pos trivial]
      unfold load_Admit.f
      refine Ev.bind h1 (Ev.congr (fun k => ?_) hj)
      rw [if_pos rfl]
      by_cases c4 : r < 0
      · rw [if_pos c4]
      · by_cases c5 : r > 1000000000
        · rw [if_neg c4, if_pos c5]
        · by_cases c6 : b < 1
          · rw [if_neg c4, if_neg c5, if_pos c6]
          · rw [if_neg c4, if_neg c5, if_neg c6, decide_eq_true (by omega)]
  · refine ⟨[], e, ?_, fun h => absurd h he⟩
    unfold load_Admit.f
    refine Ev.bind h1 (Ev.congr (fun k => ?_) (Ev.now _))
    rw [if_neg he]
theorem even_at : dynamometerlaw7_even.f 400 = some true := by kernel_rfl
theorem even_ev : Ev (fun k => dynamometerlaw7_even.f k) true := Ev.of (fun k => dynamometerlaw7_even.mono k) even_at
theorem lenD (L n : Nat) (h : n < 10000 ^ L) (hL : L ≤ 20) : (encD n).length ≤ 20 := by
  have := encD_len_le L n h; omega
theorem law_step (l out : List Int) (r b : Int) (v : Bool) (i q : Nat) (m1 m2 r1 b1 D1 : Nat) (hq : q < out.length) (hi : i < out.length) (em : wrap64 (wrap64 ((q : Int) - (i : Int)) + 1) = (m1 : Int)) (er : r = (r1 : Int)) (eb : b = (b1 : Int)) (eD : wrap64 (rd out (q : Int) - rd out (i : Int)) = (D1 : Int))
    (hm1 : m1 ≤ 20000) (hr1 : r1 ≤ 1000000000) (hb1 : b1 ≤ 1000000) (hD1 : D1 ≤ 100000000000000) (hle : m1 * 1000000000 ≤ b1 * 1000000000 + r1 * D1) (hq2 : q < 20000)
    (h : Ev (fun k => dynamometerlaw7_LoadAdmitKeepsTheLimit.l1 k l r b out (i : Int) ((q + 1 : Nat) : Int)) v) : Ev (fun k => dynamometerlaw7_LoadAdmitKeepsTheLimit.l1 k l r b out (i : Int) (q : Int)) v := by
  have c1 : (q : Int) < (out.length : Int) := by omega
  have c2 : (0 : Int) ≤ (q : Int) := by omega
  have c3 : (0 : Int) ≤ (i : Int) := by omega
  have c4 : (i : Int) < (out.length : Int) := by omega
  have hX : r1 * D1 ≤ 100000000000000000000000 := Nat.le_trans (Nat.mul_le_mul hr1 hD1) (by decide)
  have o1 := OfD_ev m1 (by omega)
  have o2 : Ev (fun k => dynamometerref0_Of.f k 1000000000) (encD 1000000000) := OfD_ev 1000000000 (by decide)
  have o3 := OfD_ev b1 (by omega)
  have o4 := OfD_ev r1 (by omega)
  have o5 := OfD_ev D1 (by omega)
  have g1 := lenD 5 m1 (by omega) (by omega)
  have g3 := lenD 5 b1 (by omega) (by omega)
  have g4 := lenD 5 r1 (by omega) (by omega)
  have g5 := lenD 5 D1 (by omega) (by omega)
  obtain ⟨B, hB⟩ : ∃ B : Nat, B = 1000000000 := ⟨_, rfl⟩
  have g2 := lenD 5 B (by omega) (by omega)
  rw [← hB] at o2 hle
  have m1' := MulD_ev m1 B (by omega)
  have m2' := MulD_ev b1 B (by omega)
  have m3' := MulD_ev r1 D1 (by omega)
  have hXb : b1 * B ≤ 1000000000000000 := by rw [hB]; omega
  have hXm : m1 * B ≤ 20000000000000 := by rw [hB]; omega
  have l1 := lenD 19 (m1 * B) (by omega) (by omega)
  have l2 := lenD 19 (b1 * B) (by omega) (by omega)
  have l3 := lenD 19 (r1 * D1) (by omega) (by omega)
  have l4 := lenD 19 (b1 * B + r1 * D1) (by omega) (by omega)
  have a1 := AddD_ev (b1 * B) (r1 * D1) (by omega)
  have k1 := CmpD_ev (m1 * B) (b1 * B + r1 * D1) (by omega) (by omega)
  have hc : ¬ (if m1 * B < b1 * B + r1 * D1 then (-1 : Int) else if m1 * B = b1 * B + r1 * D1 then 0 else 1) > 0 := by
    by_cases h1 : m1 * B < b1 * B + r1 * D1
    · rw [if_pos h1]; decide
    · rw [if_neg h1, if_pos (by omega)]; decide
  have hw := wDs q (by omega)
  have HH := And.intro em (And.intro eD hw)
  have HX := Aside0.mk HH
  clear HH em eD hw l1 l2 l3 l4 g1 g2 g3 g4 g5 hX hXb hXm hle
  rw [er, eb] at h ⊢
  have hlast : Ev (fun k => if (0 : Int) ≤ (q : Int) then (if (0 : Int) ≤ (i : Int) then (if (i : Int) < (out.length : Int) then ((dynamometerref0_Of.f k (wrap64 (rd out (q : Int) - rd out (i : Int)))).bind fun t564 => ((dynamometerref0_Mul.f k (encD r1) t564).bind fun t567 => ((dynamometerref0_Add.f k (encD (b1 * B)) t567).bind fun t570 => ((dynamometerref0_Cmp.f k (encD (m1 * B)) t570).bind fun t573 => (if t573 > 0 then (some false) else (dynamometerlaw7_LoadAdmitKeepsTheLimit.l1 k l (r1 : Int) (b1 : Int) out (i : Int) (wrap64 ((q : Int) + 1)))))))) else none) else none) else none) v := by
    obtain ⟨em, eD, hw⟩ := HX.out
    simp only [if_pos c2, if_pos c3, if_pos c4, eD, hw]
    refine Ev.bind o5 (Ev.bind m3' (Ev.bind a1 (Ev.bind k1 (Ev.congr (fun k => ?_) h))))
    rw [if_neg hc]
  refine Ev.step (f := fun k => (dynamometerref0_Of.f k (m1 : Int)).bind fun t541 => ((dynamometerref0_Of.f k 1000000000).bind fun t544 => ((dynamometerref0_Mul.f k t541 t544).bind fun t547 => ((dynamometerref0_Of.f k (b1 : Int)).bind fun t550 => ((dynamometerref0_Of.f k 1000000000).bind fun t553 => ((dynamometerref0_Mul.f k t550 t553).bind fun t556 => ((dynamometerref0_Of.f k (r1 : Int)).bind fun t559 => (if (0 : Int) ≤ (q : Int) then (if (0 : Int) ≤ (i : Int) then (if (i : Int) < (out.length : Int) then ((dynamometerref0_Of.f k (wrap64 (rd out (q : Int) - rd out (i : Int)))).bind fun t564 => ((dynamometerref0_Mul.f k t559 t564).bind fun t567 => ((dynamometerref0_Add.f k t556 t567).bind fun t570 => ((dynamometerref0_Cmp.f k t547 t570).bind fun t573 => (if t573 > 0 then (some false) else (dynamometerlaw7_LoadAdmitKeepsTheLimit.l1 k l (r1 : Int) (b1 : Int) out (i : Int) (wrap64 ((q : Int) + 1)))))))) else none) else none) else none)))))))) (fun k => ?_) (Ev.bind o1 (Ev.bind o2 (Ev.bind m1' (Ev.bind o3 (Ev.bind o2 (Ev.bind m2' (Ev.bind o4 hlast)))))))
  obtain ⟨em, eD, hw⟩ := HX.out
  simp only [dynamometerlaw7_LoadAdmitKeepsTheLimit.l1]
  rw [if_pos c1, em]
end Go.Proofs.Ytaoekkikpceccaa.QLoadAdmitKeepsTheLimit
