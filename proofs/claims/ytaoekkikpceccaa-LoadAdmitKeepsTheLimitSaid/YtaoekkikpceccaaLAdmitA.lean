/- Package load: the vessel of tokens and Admit: what begins is in order, and no span of time has more than its tokens. Condition: the times pass their check. -/
import Derived.Test.YtaoekkikpceccaaLRefB
namespace Go.Proofs.Ytaoekkikpceccaa.QLoadAdmitKeepsTheLimit
open Go.RowKit Go.Proofs.YtaoekkikpceccaaW.PrintWords Go.Proofs.YtaoekkikpceccaaW.PrintLast Go.Proofs.YtaoekkikpceccaaW.PrintMore
set_option linter.unusedVariables false
set_option linter.unusedSimpArgs false
theorem mul_div_le (r m : Int) (hr : 0 < r) : r * (m / r) ≤ m := Int.mul_ediv_self_le (by omega)
theorem fill_step (R r h a t : Int) (hr : 0 < r) (hh : 0 ≤ h ∧ h ≤ R) (hta : a < t) (hc : ¬ t - a > (R - h) / r) : 0 ≤ r * (t - a) ∧ r * (t - a) ≤ R - h := by
  constructor
  · exact Int.mul_nonneg (by omega) (by omega)
  · have h1 := Int.mul_le_mul_of_nonneg_left (show t - a ≤ (R - h) / r by omega) (show 0 ≤ r by omega)
    have h2 := mul_div_le r (R - h) hr
    omega
theorem div_bound (m r : Int) (hr : 0 < r) (hm : 0 ≤ m) (hM : m ≤ 1000000000000000) : 0 ≤ m / r ∧ m / r ≤ 1000000000000000 :=
  ⟨Int.ediv_nonneg hm (by omega), Int.le_trans (Int.ediv_le_self r hm) hM⟩
theorem fill_ev (R r h a t : Int) (hR : R ≤ 1000000000000000) (hr : 0 ≤ r ∧ r ≤ 1000000000) (hh : 0 ≤ h ∧ h ≤ R) (ha : 0 ≤ a ∧ a ≤ 100000000000000) (ht : 0 ≤ t ∧ t ≤ 100000000000000) :
    ∃ h' : Int, Ev (fun k => load_vessel_fill.f k R r h a t) (R, r, h', mx a t) ∧ h ≤ h' ∧ h' ≤ R ∧ h' ≤ h + r * (mx a t - a) ∧ (0 < r → a < t → R ≤ h' ∨ h' = h + r * (t - a)) := by
  have hmx : a ≤ mx a t ∧ t ≤ mx a t := by unfold mx; split <;> omega
  have hno : ∀ b : Bool, b = false → Ev (fun k => load_vessel_fill.j0 k t b R r h a) (R, r, h, mx a t) := by
    intro b hb
    subst hb
    refine Ev.step (f := fun _ => some _) (fun k => ?_) (Ev.now _)
    simp only [load_vessel_fill.j0]
    rw [if_neg (by decide)]
  have hnn : 0 ≤ r * (mx a t - a) := Int.mul_nonneg hr.1 (by omega)
  by_cases hr0 : r > 0
  · by_cases hta : t > a
    · have emx : mx a t = t := by unfold mx; rw [if_pos hta]
      have hd := div_bound (R - h) r hr0 (by omega) (by omega)
      have e1 : wrap64 (t - a) = t - a := wD (by omega) (by omega)
      have e2 : wrap64 (R - h) = R - h := wD (by clear e1; omega) (by clear e1; omega)
      have e3 : Int.tdiv (R - h) r = (R - h) / r := Int.tdiv_eq_ediv_of_nonneg (by clear e1 e2; omega)
      have e4 : wrap64 ((R - h) / r) = (R - h) / r := wD (by clear e1 e2 e3; omega) (by clear e1 e2 e3; omega)
      have hr1 : ¬ r = 0 := by clear e1 e2 e3 e4; omega
      by_cases hc : t - a > (R - h) / r
      · have hle : R ≤ h + r * (t - a) := by
          have h1 : (R - h) / r + 1 ≤ t - a := by clear e1 e2 e3 e4; omega
          have h2 := Int.mul_le_mul_of_nonneg_left h1 (show 0 ≤ r by clear e1 e2 e3 e4; omega)
          have h3 := Int.lt_ediv_add_one_mul_self (R - h) hr0
          rw [Int.mul_comm] at h3
          clear e1 e2 e3 e4
          generalize r * ((R - h) / r + 1) = X at *
          generalize r * (t - a) = Y at *
          omega
        refine ⟨R, Ev.congr (f := fun k => load_vessel_fill.j0 k t true R r h a) (fun k => ?_) (Ev.step (f := fun _ => some _) (fun k => ?_) (Ev.now _)), hh.2, Int.le_refl _, by rw [emx]; exact hle, fun _ _ => .inl (Int.le_refl _)⟩
        · simp only [load_vessel_fill.f]
          rw [if_pos hr0, decide_eq_true hta]
        · simp only [load_vessel_fill.j0]
          rw [if_pos trivial, if_neg hr1, e1, e2, e3, e4, if_pos hc]
      · obtain ⟨f1, f2⟩ := fill_step R r h a t hr0 hh hta hc
        have e5 : wrap64 (r * (t - a)) = r * (t - a) := wD (by clear e1 e2 e3 e4; omega) (by clear e1 e2 e3 e4; omega)
        have e6 : wrap64 (h + r * (t - a)) = h + r * (t - a) := wD (by clear e1 e2 e3 e4 e5; omega) (by clear e1 e2 e3 e4 e5; omega)
        refine ⟨h + r * (t - a), Ev.congr (f := fun k => load_vessel_fill.j0 k t true R r h a) (fun k => ?_) (Ev.step (f := fun _ => some _) (fun k => ?_) (Ev.now _)), by clear e1 e2 e3 e4 e5 e6; omega, by clear e1 e2 e3 e4 e5 e6; omega, by rw [emx]; exact Int.le_refl _, fun _ _ => .inr rfl⟩
        · simp only [load_vessel_fill.f]
          rw [if_pos hr0, decide_eq_true hta]
        · simp only [load_vessel_fill.j0]
          rw [if_pos trivial, if_neg hr1, e1, e2, e3, e4, if_neg hc, e5, e6]
    · refine ⟨h, Ev.congr (fun k => ?_) (hno _ (decide_eq_false hta)), Int.le_refl _, hh.2, by omega, fun _ h2 => absurd h2 (by omega)⟩
      simp only [load_vessel_fill.f]
      rw [if_pos hr0]
  · refine ⟨h, Ev.congr (fun k => ?_) (hno false rfl), Int.le_refl _, hh.2, by omega, fun h1 _ => absurd h1 hr0⟩
    simp only [load_vessel_fill.f]
    rw [if_neg hr0]
theorem ceil_ok (m r : Int) (hr : 0 < r) (hm : 0 < m) (hM : m ≤ 1000000000) (hr2 : r ≤ 1000000000) : 1 ≤ (m + r - 1) / r ∧ (m + r - 1) / r ≤ 1000000000 ∧ m ≤ r * ((m + r - 1) / r) := by
  have h1 : 1 ≤ (m + r - 1) / r := Int.le_ediv_of_mul_le hr (by omega)
  have h2 := Int.lt_ediv_add_one_mul_self (m + r - 1) hr
  rw [Int.add_mul, Int.one_mul, Int.mul_comm] at h2
  refine ⟨h1, ?_, by generalize r * ((m + r - 1) / r) = X at *; omega⟩
  have h4 : m - 1 ≤ r * (m - 1) := by
    have := Int.mul_le_mul_of_nonneg_right (show 1 ≤ r by omega) (show 0 ≤ m - 1 by omega)
    rw [Int.one_mul] at this
    exact this
  have h3 : (m + r - 1) / r < m + 1 := by
    refine Int.ediv_lt_of_lt_mul hr ?_
    have e : (m + 1) * r = r * (m - 1) + 2 * r := by grind
    rw [e]
    generalize r * (m - 1) = Y at *
    omega
  omega
theorem take_good (R r h a t : Int) (hR0 : 1000000000 ≤ R) (hR : R ≤ 1000000000000000) (hr : 0 ≤ r ∧ r ≤ 1000000000) (hh : 0 ≤ h ∧ h ≤ R) (ha : 0 ≤ a ∧ a ≤ 90000000000000) (ht : 0 ≤ t ∧ t ≤ 1000000000000) :
    (∃ v : Int × Int × Int × Int, Ev (fun k => load_vessel_take.f k R r h a t) (0, false, v)) ∨
    ∃ h' a' : Int, Ev (fun k => load_vessel_take.f k R r h a t) (a', true, R, r, h', a') ∧ t ≤ a' ∧ a ≤ a' ∧ 0 ≤ h' ∧ h' + 1000000000 ≤ R ∧ h' + 1000000000 ≤ h + r * (a' - a) ∧ (a' ≤ a + 1000000000 ∨ a' ≤ t + 1000000000) := by
  obtain ⟨h1, f1, g1, g2, g3, g4⟩ := fill_ev R r h a t hR hr hh ⟨ha.1, by omega⟩ ⟨ht.1, by omega⟩
  have hmx : a ≤ mx a t ∧ t ≤ mx a t ∧ (mx a t ≤ a ∨ mx a t ≤ t) := by unfold mx; split <;> omega
  generalize hA : mx a t = a1 at *
  have e1 : wrap64 (1000000000 - h1) = 1000000000 - h1 := wD (by omega) (by omega)
  by_cases hm : 1000000000 - h1 > 0
  · by_cases hr0 : r = 0
    · refine .inl ⟨(R, r, h1, a1), ?_⟩
      refine Ev.congr (f := fun k => (load_vessel_fill.f k R r h a t).bind _) (fun k => by simp only [load_vessel_take.f]; rfl) (Ev.bind f1 (Ev.congr (fun k => ?_) (Ev.now _)))
      simp only [e1]
      rw [if_pos hm, if_pos hr0]
    · obtain ⟨c1, c2, c3⟩ := ceil_ok (1000000000 - h1) r (by clear e1; omega) hm (by clear e1; omega) hr.2
      have e2 : wrap64 (1000000000 - h1 + r) = 1000000000 - h1 + r := wD (by clear e1; omega) (by clear e1; omega)
      have e3 : wrap64 (1000000000 - h1 + r - 1) = 1000000000 - h1 + r - 1 := wD (by clear e1 e2; omega) (by clear e1 e2; omega)
      have e4 : Int.tdiv (1000000000 - h1 + r - 1) r = (1000000000 - h1 + r - 1) / r := Int.tdiv_eq_ediv_of_nonneg (by clear e1 e2 e3; omega)
      obtain ⟨C, hC⟩ : ∃ C, C = (1000000000 - h1 + r - 1) / r := ⟨_, rfl⟩
      rw [← hC] at c1 c2 c3 e4
      have e5 : wrap64 C = C := wD (by clear e1 e2 e3 e4 hC; omega) (by clear e1 e2 e3 e4 hC; omega)
      have e6 : wrap64 (a1 + C) = a1 + C := wD (by clear e1 e2 e3 e4 hC e5; omega) (by clear e1 e2 e3 e4 hC e5; omega)
      have E := And.intro e1 (And.intro e2 (And.intro e3 (And.intro e4 (And.intro e5 e6))))
      have EE := Aside0.mk E
      clear E e1 e2 e3 e4 e5 e6 hC
      obtain ⟨h2, f2, k1, k2, k3, k4⟩ := fill_ev R r h1 a1 (a1 + C) hR hr ⟨by omega, g2⟩ ⟨by omega, by omega⟩ ⟨by omega, by omega⟩
      have hmx2 : mx a1 (a1 + C) = a1 + C := by unfold mx; rw [if_pos (by omega)]
      rw [hmx2] at f2 k3
      have h2ge : 1000000000 ≤ h2 := by
        rcases k4 (by omega) (by omega) with h3 | h3
        · omega
        · have e : r * (a1 + C - a1) = r * C := by congr 1; omega
          rw [e] at h3
          generalize r * C = X at *
          omega
      have hsum : h2 ≤ h + r * (a1 + C - a) := by
        have e : r * (a1 + C - a) = r * (a1 - a) + r * (a1 + C - a1) := by grind
        rw [e]
        generalize r * (a1 - a) = X at *
        generalize r * (a1 + C - a1) = Y at *
        omega
      refine .inr ⟨h2 - 1000000000, a1 + C, ?_, by omega, by omega, by omega, by omega, by omega, by omega⟩
      have e7 : wrap64 (h2 - 1000000000) = h2 - 1000000000 := wD (by omega) (by omega)
      obtain ⟨e1, e2, e3, e4, e5, e6⟩ := EE.out
      refine Ev.congr (f := fun k => (load_vessel_fill.f k R r h a t).bind _) (fun k => by simp only [load_vessel_take.f]; rfl) (Ev.bind f1 ?_)
      simp only [e1, e2, e3, e4, e5, e6, if_pos hm, if_neg hr0]
      refine Ev.bind f2 (Ev.congr (fun k => ?_) (Ev.now _))
      simp only [e7]
  · refine .inr ⟨h1 - 1000000000, a1, ?_, by omega, by omega, by omega, by omega, by omega, by omega⟩
    have e7 : wrap64 (h1 - 1000000000) = h1 - 1000000000 := wD (by clear e1; omega) (by clear e1; omega)
    refine Ev.congr (f := fun k => (load_vessel_fill.f k R r h a t).bind _) (fun k => by simp only [load_vessel_take.f]; rfl) (Ev.bind f1 (Ev.congr (fun k => ?_) (Ev.now _)))
    simp only [e1, if_neg hm, e7]
theorem times_l0 (l : List Int) (hl : l.length ≤ 20000) : ∀ (d i : Nat), i + d = l.length → (∀ j : Nat, j < i → 0 ≤ rd l (j : Int) ∧ rd l (j : Int) ≤ 1000000000000) →
    ∃ e : Int, Ev (fun k => load_checkTimes.l0 k l l (l.length : Int) (i : Int)) e ∧ (e = 0 → ∀ j : Nat, j < l.length → 0 ≤ rd l (j : Int) ∧ rd l (j : Int) ≤ 1000000000000) := by
  intro d
  induction d with
  | zero =>
    intro i hi hall
    have hi' : i = l.length := by omega
    subst hi'
    refine ⟨0, Ev.step (f := fun _ => some 0) (fun k => ?_) (Ev.now _), fun _ => hall⟩
    simp only [load_checkTimes.l0]
    rw [if_neg (by omega)]
  | succ d ih =>
    intro i hi hall
    have c1 : (i : Int) < (l.length : Int) := by omega
    have c2 : (0 : Int) ≤ (i : Int) := by omega
    have c3 : i < 9000000 := by omega
    by_cases hb : rd l (i : Int) < 0 ∨ rd l (i : Int) > 1000000000000
    · refine ⟨9, ?_, fun h => absurd h (by decide)⟩
      have hj : Ev (fun k => load_checkTimes.j1 k l (i : Int) (rd l (i : Int)) l (l.length : Int) (i : Int) true) 9 := by
        refine Ev.step (f := fun _ => some 9) (fun k => ?_) (Ev.now _)
        simp only [load_checkTimes.j1]
        rw [if_pos trivial]
      refine Ev.step (fun k => ?_) hj
      simp only [load_checkTimes.l0]
      rw [if_pos c1, if_pos c2, if_pos c1]
      by_cases h1 : rd l (i : Int) < 0
      · rw [if_pos h1]
      · rw [if_neg h1, decide_eq_true (by omega)]
    · have hok : 0 ≤ rd l (i : Int) ∧ rd l (i : Int) ≤ 1000000000000 := by omega
      obtain ⟨e, h1, h2⟩ := ih (i + 1) (by omega) (fun j hj => by
        by_cases h : j < i
        · exact hall j h
        · rw [show j = i by omega]; exact hok)
      have hw := wDs i c3
      have hw2 := wDp i c3
      have step : ∀ r, Ev (fun k => load_checkTimes.j1 k l (i : Int) (rd l (i : Int)) l (l.length : Int) (i : Int) false) r → Ev (fun k => load_checkTimes.l0 k l l (l.length : Int) (i : Int)) r := by
        intro r hr
        refine Ev.step (fun k => ?_) hr
        simp only [load_checkTimes.l0]
        rw [if_pos c1, if_pos c2, if_pos c1, if_neg (by clear hw hw2; omega), decide_eq_false (by clear hw hw2; omega)]
      by_cases hi0 : (i : Int) > 0
      · have c4 : (0 : Int) ≤ (i : Int) - 1 := by clear hw hw2; omega
        have c5 : (i : Int) - 1 < (l.length : Int) := by clear hw hw2; omega
        by_cases ho : rd l (i : Int) < rd l ((i : Int) - 1)
        · refine ⟨10, step _ (Ev.step (f := fun _ => some 10) (fun k => ?_) (Ev.now _)), fun h => absurd h (by decide)⟩
          simp only [load_checkTimes.j1]
          rw [if_neg (by decide), if_pos hi0, hw2, if_pos c4, if_pos c5, if_pos ho]
        · refine ⟨e, step _ (Ev.step (fun k => ?_) h1), h2⟩
          simp only [load_checkTimes.j1]
          rw [if_neg (by decide), if_pos hi0, hw2, if_pos c4, if_pos c5, if_neg ho, hw]
      · refine ⟨e, step _ (Ev.step (fun k => ?_) h1), h2⟩
        simp only [load_checkTimes.j1]
        rw [if_neg (by decide), if_neg hi0, hw]
theorem times_ev (l : List Int) : ∃ e : Int, Ev (fun k => load_checkTimes.f k l) e ∧ (e = 0 → l.length ≤ 20000 ∧ ∀ j : Nat, j < l.length → 0 ≤ rd l (j : Int) ∧ rd l (j : Int) ≤ 1000000000000) := by
  by_cases h : l.length ≤ 20000
  · obtain ⟨e, h1, h2⟩ := times_l0 l h l.length 0 (by omega) (fun j hj => absurd hj (by omega))
    refine ⟨e, Ev.congr (fun k => ?_) h1, fun he => ⟨h, h2 he⟩⟩
    simp only [load_checkTimes.f]
    rw [if_neg (by omega)]
    rfl
  · refine ⟨3, Ev.congr (f := fun _ => some 3) (fun k => ?_) (Ev.now _), fun he => absurd he (by decide)⟩
    simp only [load_checkTimes.f]
    rw [if_pos (by omega)]
end Go.Proofs.Ytaoekkikpceccaa.QLoadAdmitKeepsTheLimit
