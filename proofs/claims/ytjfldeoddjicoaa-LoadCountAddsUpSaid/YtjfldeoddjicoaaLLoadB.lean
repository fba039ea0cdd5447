/- Package load: Check, the length, newLine, stageAt and the area answer as the whole numbers say. Condition: the line passes Check. -/
import Derived.Test.YtjfldeoddjicoaaLLoadA
import Derived.Test.YtjfldeoddjicoaaLNm
import Derived.Test.YtjfldeoddjicoaaLx15
namespace Go.Proofs.Ytjfldeoddjicoaa.QLoadCountAddsUp
open Go.RowKit Go.Proofs.YtjfldeoddjicoaaW.PrintWords Go.Proofs.YtjfldeoddjicoaaW.PrintLast Go.Proofs.YtjfldeoddjicoaaW.PrintMore
set_option linter.unusedVariables false
set_option linter.unusedSimpArgs false
def toS (s : St) : S77 := ⟨(s.1 : Int), (s.2.1 : Int), (s.2.2 : Int)⟩
def ofS (s : S77) : St := (s.f0.toNat, s.f1.toNat, s.f2.toNat)
def okI (s : S77) : Prop := 1 ≤ s.f0 ∧ s.f0 ≤ 100000000000 ∧ 0 ≤ s.f1 ∧ s.f1 ≤ 1000000000 ∧ 0 ≤ s.f2 ∧ s.f2 ≤ 1000000000
structure Good (ls : List St) : Prop where
  pos : 0 < ls.length
  len : ls.length ≤ 50
  ok : ∀ i, i < ls.length → okSt (gs ls i)
  time : bg ls ls.length ≤ 1000000000000
theorem rd_toS (ls : List St) (i : Nat) (h : i < ls.length) : rd_T77 (ls.map toS) (i : Int) = toS (gs ls i) := by
  unfold rd_T77 gs
  rw [Int.toNat_natCast, List.getD_eq_getElem?_getD, List.getD_eq_getElem?_getD, List.getElem?_map, List.getElem?_eq_getElem h]
  rfl
theorem toS_ofS {s : S77} (h : okI s) : toS (ofS s) = s := by
  obtain ⟨h1, h2, h3, h4, h5, h6⟩ := h
  cases s
  simp only [toS, ofS, S77.mk.injEq]
  simp only at h1 h3 h5
  omega
theorem okSt_ofS {s : S77} (h : okI s) : okSt (ofS s) := by
  obtain ⟨h1, h2, h3, h4, h5, h6⟩ := h
  unfold okSt ofS
  simp only
  omega
theorem bg_le (ls : List St) (hok : ∀ i, i < ls.length → okSt (gs ls i)) : ∀ i, i ≤ ls.length → bg ls i ≤ i * 100000000000 := by
  intro i
  induction i with
  | zero => intro _; rw [bg_zero]; exact Nat.zero_le _
  | succ i ih =>
    intro h
    have h1 := ih (by omega)
    have h2 := (hok i (by omega)).2.1
    rw [bg_succ ls i (by omega)]
    omega
theorem ah_le (ls : List St) (hok : ∀ i, i < ls.length → okSt (gs ls i)) : ∀ i, i ≤ ls.length → ah ls i ≤ i * 200000000000000000000 := by
  intro i
  induction i with
  | zero => intro _; rw [ah_zero]; exact Nat.zero_le _
  | succ i ih =>
    intro h
    have h1 := ih (by omega)
    obtain ⟨a1, a2, a3, a4⟩ := hok i (by omega)
    have h3 : ((gs ls i).2.1 + (gs ls i).2.2) * (gs ls i).1 ≤ 2000000000 * 100000000000 := Nat.mul_le_mul (by omega) (by omega)
    rw [ah_succ ls i (by omega)]
    omega
theorem length_l0 (ls : List St) (hl : ls.length ≤ 50) (hok : ∀ i, i < ls.length → okSt (gs ls i)) : ∀ (d i : Nat), i + d = ls.length →
    Ev (fun k => load_length.l0 k ((bg ls i : Nat) : Int) (ls.map toS) (ls.length : Int) (i : Int)) ((bg ls ls.length : Nat) : Int) := by
  intro d
  induction d with
  | zero =>
    intro i hi
    have hi' : i = ls.length := by omega
    subst hi'
    refine Ev.step (f := fun _ => some _) (fun k => ?_) (Ev.now _)
    simp only [load_length.l0]
    rw [if_neg (by omega)]
  | succ d ih =>
    intro i hi
    have h1 := ih (i + 1) (by omega)
    have c1 : (i : Int) < (ls.length : Int) := by omega
    have c2 : (0 : Int) ≤ (i : Int) := by omega
    have c3 : i < ls.length := by omega
    have c4 : (i : Int) < ((ls.map toS).length : Int) := by rw [List.length_map]; exact c1
    have hb := bg_le ls hok (i + 1) (by omega)
    have hs := bg_succ ls i c3
    have hw : wrap64 ((bg ls i : Nat) + (toS (gs ls i)).f0) = ((bg ls (i + 1) : Nat) : Int) := by
      have e : ((bg ls i : Nat) : Int) + (toS (gs ls i)).f0 = ((bg ls (i + 1) : Nat) : Int) := by rw [hs]; simp only [toS]; omega
      rw [e]; exact w64 (by omega) (by omega)
    have hw2 := w64s i (by omega)
    refine Ev.step (fun k => ?_) h1
    simp only [load_length.l0]
    rw [if_pos c1, if_pos c2, if_pos c4, rd_toS ls i c3, hw, hw2]
theorem length_ev (ls : List St) (hl : ls.length ≤ 50) (hok : ∀ i, i < ls.length → okSt (gs ls i)) : Ev (fun k => load_length.f k (ls.map toS)) ((bg ls ls.length : Nat) : Int) := by
  have := length_l0 ls hl hok ls.length 0 (by omega)
  rw [bg_zero] at this
  refine Ev.congr (fun k => ?_) this
  simp only [load_length.f]
  rw [List.length_map]
  rfl
theorem map_ofS (l : List S77) (h : ∀ i : Nat, i < l.length → okI (rd_T77 l (i : Int))) : (l.map ofS).map toS = l := by
  rw [List.map_map]
  refine (List.map_congr_left (fun s hs => ?_)).trans (List.map_id l)
  obtain ⟨i, hi, rfl⟩ := List.getElem_of_mem hs
  have := h i hi
  unfold rd_T77 at this
  rw [Int.toNat_natCast, List.getD_eq_getElem?_getD, List.getElem?_eq_getElem hi] at this
  exact toS_ofS this
theorem gs_ofS (l : List S77) (i : Nat) (h : i < l.length) : gs (l.map ofS) i = ofS (rd_T77 l (i : Int)) := by
  unfold gs rd_T77
  rw [Int.toNat_natCast, List.getD_eq_getElem?_getD, List.getD_eq_getElem?_getD, List.getElem?_map, List.getElem?_eq_getElem h]
  rfl
theorem Check_l0 (l : List S77) (hp : 0 < l.length) (hlen : l.length ≤ 50) : ∀ (d i : Nat), i + d = l.length → (∀ j : Nat, j < i → okI (rd_T77 l (j : Int))) →
    (∃ ls : List St, l = ls.map toS ∧ Good ls ∧ Ev (fun k => load_Check.l0 k l l (l.length : Int) (i : Int)) 0) ∨ ∃ e : Int, e ≠ 0 ∧ Ev (fun k => load_Check.l0 k l l (l.length : Int) (i : Int)) e := by
  intro d
  induction d with
  | zero =>
    intro i hi hall
    have hi' : i = l.length := by omega
    subst hi'
    have e := map_ofS l hall
    have hok : ∀ i, i < (l.map ofS).length → okSt (gs (l.map ofS) i) := by
      intro i hi
      rw [List.length_map] at hi
      rw [gs_ofS l i hi]
      exact okSt_ofS (hall i hi)
    have hlv := length_ev (l.map ofS) (by rw [List.length_map]; exact hlen) hok
    rw [e] at hlv
    by_cases ht : bg (l.map ofS) (l.map ofS).length ≤ 1000000000000
    · refine .inl ⟨l.map ofS, e.symm, ⟨by rw [List.length_map]; exact hp, by rw [List.length_map]; exact hlen, hok, ht⟩, ?_⟩
      refine Ev.step (f := fun k => (load_length.f k l).bind fun t => if t > 1000000000000 then some 3 else some 0) (fun k => ?_) (Ev.bind hlv (Ev.congr (fun k => ?_) (Ev.now _)))
      · simp only [load_Check.l0]
        rw [if_neg (by omega)]
      · rw [if_neg (by omega)]
    · refine .inr ⟨3, by decide, ?_⟩
      refine Ev.step (f := fun k => (load_length.f k l).bind fun t => if t > 1000000000000 then some 3 else some 0) (fun k => ?_) (Ev.bind hlv (Ev.congr (fun k => ?_) (Ev.now _)))
      · simp only [load_Check.l0]
        rw [if_neg (by omega)]
      · rw [if_pos (by omega)]
  | succ d ih =>
    intro i hi hall
    have c1 : (i : Int) < (l.length : Int) := by omega
    have c2 : (0 : Int) ≤ (i : Int) := by omega
    have hw2 := w64s i (by omega)
    by_cases hok : okI (rd_T77 l (i : Int))
    · have h1 := ih (i + 1) (by omega) (fun j hj => by
        by_cases h : j < i
        · exact hall j h
        · rw [show j = i by omega]; exact hok)
      obtain ⟨a1, a2, a3, a4, a5, a6⟩ := hok
      have step : ∀ k, load_Check.l0 (k + 1) l l (l.length : Int) (i : Int) = load_Check.l0 k l l (l.length : Int) ((i + 1 : Nat) : Int) := by
        intro k
        simp only [load_Check.l0]
        rw [if_pos c1, if_pos c2, if_pos c1, if_neg (by omega), if_neg (by omega), if_neg (by omega), if_neg (by omega), if_neg (by omega), if_neg (by omega), hw2]
      rcases h1 with ⟨ls, h2, h3, h4⟩ | ⟨e, h2, h3⟩
      · exact .inl ⟨ls, h2, h3, Ev.step step h4⟩
      · exact .inr ⟨e, h2, Ev.step step h3⟩
    · refine .inr ⟨9, by decide, Ev.step (f := fun _ => some 9) (fun k => ?_) (Ev.now _)⟩
      simp only [load_Check.l0]
      rw [if_pos c1, if_pos c2, if_pos c1]
      unfold okI at hok
      repeat' split
      all_goals first | rfl | (exfalso; omega)
theorem Check_ev (l : List S77) : (∃ ls : List St, l = ls.map toS ∧ Good ls ∧ Ev (fun k => load_Check.f k l) 0) ∨ ∃ e : Int, e ≠ 0 ∧ Ev (fun k => load_Check.f k l) e := by
  by_cases h0 : l.length = 0
  · refine .inr ⟨13, by decide, Ev.congr (f := fun _ => some 13) (fun k => ?_) (Ev.now _)⟩
    simp only [load_Check.f]
    rw [if_pos (by omega)]
  · by_cases h1 : l.length ≤ 50
    · have h2 := Check_l0 l (by omega) h1 l.length 0 (by omega) (fun j hj => absurd hj (by omega))
      have e : ∀ k, load_Check.f k l = load_Check.l0 k l l (l.length : Int) ((0 : Nat) : Int) := by
        intro k
        simp only [load_Check.f]
        rw [if_neg (by omega), if_neg (by omega)]
        rfl
      rcases h2 with ⟨ls, h2, h3, h4⟩ | ⟨c, h2, h3⟩
      · exact .inl ⟨ls, h2, h3, Ev.congr e h4⟩
      · exact .inr ⟨c, h2, Ev.congr e h3⟩
    · refine .inr ⟨3, by decide, Ev.congr (f := fun _ => some 3) (fun k => ?_) (Ev.now _)⟩
      simp only [load_Check.f]
      rw [if_neg (by omega), if_pos (by omega)]
end Go.Proofs.Ytjfldeoddjicoaa.QLoadCountAddsUp
