/- The law of the limit: LoadAdmitKeepsTheLimit answers true, whatever the times and the limit. -/
import Derived.Test.YtaoekkikpceccaaLAdmitB
namespace Go.Proofs.Ytaoekkikpceccaa.QLoadAdmitKeepsTheLimit
open Go.RowKit Go.Proofs.YtaoekkikpceccaaW.PrintWords Go.Proofs.YtaoekkikpceccaaW.PrintLast Go.Proofs.YtaoekkikpceccaaW.PrintMore
set_option linter.unusedVariables false
set_option linter.unusedSimpArgs false
theorem law_l1 (l out : List Int) (r b h a : Int) (hr : 0 ≤ r ∧ r ≤ 1000000000) (hb : 1 ≤ b ∧ b ≤ 1000000) (I : Inv (b * 1000000000) r l out l.length h a) (hl : l.length ≤ 100) (v : Bool) (i : Nat) (hi : i < out.length)
    (hnext : Ev (fun k => dynamometerlaw7_LoadAdmitKeepsTheLimit.l0 k l r b out ((i + 1 : Nat) : Int)) v) : ∀ (d q : Nat), q + d = out.length → i ≤ q → Ev (fun k => dynamometerlaw7_LoadAdmitKeepsTheLimit.l1 k l r b out (i : Int) (q : Int)) v := by
  have hol := I.len
  intro d
  induction d with
  | zero =>
    intro q hq hiq
    have hw := wDs i (by omega)
    refine Ev.step (fun k => ?_) hnext
    simp only [dynamometerlaw7_LoadAdmitKeepsTheLimit.l1]
    rw [if_neg (by clear hw; omega), hw]
  | succ d ih =>
    intro q hq hiq
    have h1 := ih (q + 1) (by omega) (by omega)
    have hup := I.up i q hiq (by omega)
    have hall := I.all i q hiq (by omega)
    have hlq := I.late q (by omega)
    have hli := I.late i (by omega)
    have hnow := I.now
    obtain ⟨D1, hD1⟩ := Int.eq_ofNat_of_zero_le (show 0 ≤ rd out (q : Int) - rd out (i : Int) by omega)
    obtain ⟨r1, hr1⟩ := Int.eq_ofNat_of_zero_le hr.1
    obtain ⟨b1, hb1⟩ := Int.eq_ofNat_of_zero_le (show 0 ≤ b by omega)
    have hDl : D1 ≤ 100000000000000 := by omega
    have e1 : wrap64 ((q : Int) - (i : Int)) = (q : Int) - (i : Int) := wD (by omega) (by omega)
    have em : wrap64 (wrap64 ((q : Int) - (i : Int)) + 1) = ((q - i + 1 : Nat) : Int) := by
      rw [e1]
      have e2 : (q : Int) - (i : Int) + 1 = ((q - i + 1 : Nat) : Int) := by clear e1; omega
      rw [e2]
      clear e1
      exact wD (by omega) (by omega)
    have eD : wrap64 (rd out (q : Int) - rd out (i : Int)) = (D1 : Int) := by
      rw [hD1]
      clear e1 em
      exact wD (by omega) (by omega)
    have hle : (q - i + 1) * 1000000000 ≤ b1 * 1000000000 + r1 * D1 := by
      clear e1 em eD
      rw [hD1, hr1, hb1, ← Int.natCast_mul] at hall
      generalize r1 * D1 = X at *
      omega
    clear e1
    have HH := And.intro em eD
    have HX := Aside0.mk HH
    clear HH em eD hall
    exact law_step l out r b v i q (q - i + 1) 0 r1 b1 D1 (by omega) hi HX.out.1 hr1 hb1 HX.out.2 (by omega) (by omega) (by omega) hDl hle (by omega) h1
theorem law_l0 (l out : List Int) (r b h a : Int) (hr : 0 ≤ r ∧ r ≤ 1000000000) (hb : 1 ≤ b ∧ b ≤ 1000000) (I : Inv (b * 1000000000) r l out l.length h a) (hl : l.length ≤ 100) : ∀ (d i : Nat), i + d = out.length →
    Ev (fun k => dynamometerlaw7_LoadAdmitKeepsTheLimit.l0 k l r b out (i : Int)) true := by
  have hol := I.len
  intro d
  induction d with
  | zero =>
    intro i hi
    refine Ev.step (f := fun k => (dynamometerlaw7_even.f k).bind fun t => some t) (fun k => ?_) (Ev.bind even_ev (Ev.now _))
    simp only [dynamometerlaw7_LoadAdmitKeepsTheLimit.l0]
    rw [if_neg (by omega)]
  | succ d ih =>
    intro i hi
    have h1 := law_l1 l out r b h a hr hb I hl true i (by omega) (ih (i + 1) (by omega)) (d + 1) i hi (Nat.le_refl _)
    have hj : Ev (fun k => dynamometerlaw7_LoadAdmitKeepsTheLimit.j2 k l r b out (i : Int) false) true := by
      refine Ev.step (fun k => ?_) h1
      simp only [dynamometerlaw7_LoadAdmitKeepsTheLimit.j2]
      rw [if_neg (by decide)]
    have c1 : (i : Int) < (out.length : Int) := by omega
    have c2 : (0 : Int) ≤ (i : Int) := by omega
    have c3 : (i : Int) < (l.length : Int) := by omega
    have c4 : ¬ rd out (i : Int) < rd l (i : Int) := by have := (I.late i (by omega)).1; omega
    refine Ev.step (fun k => ?_) hj
    simp only [dynamometerlaw7_LoadAdmitKeepsTheLimit.l0]
    rw [if_pos c1, if_pos c2, if_pos c3, if_neg c4]
    by_cases h0 : (i : Int) > 0
    · obtain ⟨j, rfl⟩ : ∃ j, i = j + 1 := ⟨i - 1, by omega⟩
      have hm := I.mono j (by omega)
      have c5 : (0 : Int) ≤ (j : Int) := by omega
      have c6 : (j : Int) < (out.length : Int) := by omega
      have c7 : ¬ rd out ((j + 1 : Nat) : Int) < rd out (j : Int) := by omega
      have hw := wDq j (by omega)
      rw [if_pos h0, hw, if_pos c5, if_pos c6, decide_eq_false c7]
    · rw [if_neg h0]
theorem law_ev (l : List Int) (r b : Int) : Ev (fun k => dynamometerlaw7_LoadAdmitKeepsTheLimit.f k l r b) true := by
  have heven : ∀ out : List Int, Ev (fun k => dynamometerlaw7_LoadAdmitKeepsTheLimit.j0 k l r b out true) true := by
    intro out
    refine Ev.step (f := fun k => (dynamometerlaw7_even.f k).bind fun t => some t) (fun k => ?_) (Ev.bind even_ev (Ev.now _))
    simp only [dynamometerlaw7_LoadAdmitKeepsTheLimit.j0]
    rw [if_pos trivial]
  obtain ⟨out, e, h1, h2⟩ := Admit_ev l r b
  unfold dynamometerlaw7_LoadAdmitKeepsTheLimit.f
  refine Ev.bind h1 ?_
  by_cases he : e = 0
  · obtain ⟨k1, k2, k3, k4, k5, h, a, I⟩ := h2 he
    by_cases hl : l.length ≤ 100
    · have hol := I.len
      have hz := law_l0 l out r b h a ⟨k1, k2⟩ ⟨k3, k4⟩ I hl out.length 0 (by omega)
      have hj : Ev (fun k => dynamometerlaw7_LoadAdmitKeepsTheLimit.j0 k l r b out false) true := by
        refine Ev.step (fun k => ?_) hz
        simp only [dynamometerlaw7_LoadAdmitKeepsTheLimit.j0]
        rw [if_neg (by decide), if_pos (by omega)]
        rfl
      refine Ev.congr (fun k => ?_) hj
      rw [if_pos he, decide_eq_false (by omega)]
    · refine Ev.congr (fun k => ?_) (heven out)
      rw [if_pos he, decide_eq_true (by omega)]
  · refine Ev.congr (fun k => ?_) (heven out)
    rw [if_neg he]
end Go.Proofs.Ytaoekkikpceccaa.QLoadAdmitKeepsTheLimit
