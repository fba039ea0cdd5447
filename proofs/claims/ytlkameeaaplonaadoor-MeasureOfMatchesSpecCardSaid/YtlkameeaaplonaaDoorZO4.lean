/- The texts of the claim, part 4: each says in its own first line what is proved and its conditions. -/
import Derived.Test.YtlkameeaaplonaaDoorZO1
import Derived.Test.YtlkameeaaplonaaDoorZO2
import Derived.Test.YtlkameeaaplonaaDoorZO3
/- Check, by measure and by its reference: the same for all histograms. Condition: the buckets are in 64 bits. -/
namespace Go.Proofs.YtlkameeaaplonaaDoor
open Go.RowKit Go.Proofs.YtlkameeaaplonaaDoor.QMeasureOfMatchesSpec Go.Proofs.YtlkameeaaplonaaDoorW.PrintWords Go.Proofs.YtlkameeaaplonaaDoorW.PrintLast Go.Proofs.YtlkameeaaplonaaDoorW.PrintMore
set_option linter.unusedVariables false
set_option linter.unusedSimpArgs false
theorem rform (x : Int) : dynamometerref9_fineBits.f x = some (decide (2 ≤ x ∧ x ≤ 8)) := by
  unfold dynamometerref9_fineBits.f
  by_cases h : 2 ≤ x
  · rw [if_pos h]; simp [h]
  · rw [if_neg h]; simp [h]
/-- The counts ahead of i are right. -/
structure Pre (b : Nat) (l : List S44) (i : Nat) : Prop where
  pos : ∀ j : Nat, j < i → 1 ≤ (rd_T44 l (j : Int)).f1 ∧ (rd_T44 l (j : Int)).f1 ≤ 1125899906842624
  place : ∀ j : Nat, j < i → ∃ a : Nat, (rd_T44 l (j : Int)).f0 = (a : Int) ∧ a ≤ top b ∧ j ≤ a
  rising : ∀ j j' : Nat, j < j' → j' < i → (rd_T44 l (j : Int)).f0 < (rd_T44 l (j' : Int)).f0
  sum : 0 ≤ tot (l.take i) ∧ tot (l.take i) ≤ (i : Int) * 1125899906842624
theorem pre_zero (b : Nat) (l : List S44) : Pre b l 0 := ⟨fun j h => by omega, fun j h => by omega, fun j j' h h' => by omega, by simp [tot]⟩
theorem pre_succ {b : Nat} {l : List S44} {i a : Nat} (h : Pre b l i) (hi : i < l.length) (ha : (rd_T44 l (i : Int)).f0 = (a : Int)) (hat : a ≤ top b) (hr : i = 0 ∨ (rd_T44 l ((i - 1 : Nat) : Int)).f0 < (a : Int))
    (h1 : 1 ≤ (rd_T44 l (i : Int)).f1) (h2 : (rd_T44 l (i : Int)).f1 ≤ 1125899906842624) : Pre b l (i + 1) := by
  refine ⟨fun j hj => ?_, fun j hj => ?_, fun j j' hj hj' => ?_, ?_⟩
  · rcases Nat.lt_or_ge j i with e | e
    · exact h.pos j e
    · obtain rfl : j = i := by omega
      exact ⟨h1, h2⟩
  · rcases Nat.lt_or_ge j i with e | e
    · exact h.place j e
    · obtain rfl : j = i := by omega
      refine ⟨a, ha, hat, ?_⟩
      rcases hr with hr | hr
      · omega
      · by_cases hj0 : j = 0
        · omega
        · obtain ⟨a', e1, _, e3⟩ := h.place (j - 1) (by omega)
          rw [e1] at hr
          omega
  · rcases Nat.lt_or_ge j' i with e | e
    · exact h.rising j j' hj e
    · obtain rfl : j' = i := by omega
      rcases hr with hr | hr
      · omega
      · rw [ha]
        rcases Nat.lt_or_ge j (j' - 1) with e1 | e1
        · have := h.rising j (j' - 1) e1 (by omega)
          omega
        · obtain rfl : j = j' - 1 := by omega
          exact hr
  · have := h.sum
    rw [tot_succ hi]
    omega
theorem pre_valid {b : Nat} {l : List S44} (h2 : 2 ≤ b) (h8 : b ≤ 8) : (Pre b l l.length ∧ tot l ≤ 1125899906842624) ↔ Valid b l := by
  constructor
  · rintro ⟨h, ht⟩
    refine ⟨h2, h8, ?_, fun s hs => ?_, fun s hs => ?_, ht⟩
    · rw [List.pairwise_iff_getElem]
      intro i j hi hj hij
      rw [List.length_map] at hi hj
      have := h.rising i j hij hj
      rw [rd44 hi, rd44 hj] at this
      simpa using this
    · obtain ⟨j, hj, rfl⟩ := List.mem_iff_getElem.1 hs
      have := h.pos j hj
      rw [rd44 hj] at this
      exact this.1
    · obtain ⟨j, hj, rfl⟩ := List.mem_iff_getElem.1 hs
      obtain ⟨a, h1, h2, _⟩ := h.place j hj
      rw [rd44 hj] at h1
      exact ⟨a, h1, h2⟩
  · intro h
    have hle : ∀ s ∈ l, s.f1 ≤ tot l := fun s hs => by
      obtain ⟨j, hj, rfl⟩ := List.mem_iff_getElem.1 hs
      have h1 := tot_take_le l (j + 1) (fun s hs => by have := h.pos s hs; omega)
      have h2 := tot_take_le l j (fun s hs => by have := h.pos s hs; omega)
      rw [tot_succ hj, rd44 hj] at h1
      omega
    have key : ∀ i, i ≤ l.length → Pre b l i := by
      intro i
      induction i with
      | zero => intro _; exact pre_zero b l
      | succ i ih =>
        intro hi
        obtain ⟨a, h1, h2⟩ := h.place _ (rd44_mem (l := l) (i := i) (by omega))
        refine pre_succ (ih (by omega)) (by omega) h1 h2 ?_ (h.pos _ (rd44_mem (by omega))) (by have := hle _ (rd44_mem (l := l) (i := i) (by omega)); have := h.total; omega)
        by_cases h0 : i = 0
        · exact .inl h0
        · right
          rw [← h1, rd44 (by omega), rd44 (by omega)]
          have := List.pairwise_iff_getElem.1 h.rising (i - 1) i (by rw [List.length_map]; omega) (by rw [List.length_map]; omega) (by omega)
          simpa using this
    exact ⟨key _ (Nat.le_refl _), h.total⟩
theorem valid_len {b : Nat} {l : List S44} (h : Valid b l) : l.length ≤ 6656 := by
  obtain ⟨hp, _⟩ := (pre_valid h.b2 h.b8).2 h
  rcases Nat.eq_zero_or_pos l.length with h0 | h0
  · omega
  · obtain ⟨a, _, h2, h3⟩ := hp.place (l.length - 1) (by omega)
    have := top_le b h.b2 h.b8
    omega
theorem valid_bound {b : Nat} {l : List S44} (h : Valid b l) : ∀ s ∈ l, (0 ≤ s.f0 ∧ s.f0 ≤ 6655) ∧ 1 ≤ s.f1 ∧ s.f1 ≤ 1125899906842624 := fun s hs => by
  obtain ⟨a, h1, h2⟩ := h.place s hs
  replace h2 : a ≤ top b := h2
  have := top_le b h.b2 h.b8
  have h3 := h.pos s hs
  obtain ⟨j, hj, rfl⟩ := List.mem_iff_getElem.1 hs
  have h4 := ((pre_valid h.b2 h.b8).2 h).1.pos j hj
  rw [rd44 hj] at h4
  exact ⟨⟨by omega, by omega⟩, h4⟩
theorem mn_step (T y : Int) (h0 : 0 ≤ T) (h1 : 1 ≤ y) (h2 : T + y < 9223372036854775808) : mn (wrap64 (mn T 1125899906842625 + y)) 1125899906842625 = mn (T + y) 1125899906842625 := by
  have e : wrap64 (mn T 1125899906842625 + y) = mn T 1125899906842625 + y := w64 (by unfold mn; split <;> omega) (by unfold mn; split <;> omega)
  rw [e]
  unfold mn
  repeat' split
  all_goals omega
theorem mn_gt {T : Int} (h : T > 1125899906842624) : mn T 1125899906842625 > 1125899906842624 := by unfold mn; split <;> omega
theorem mn_le {T : Int} (h : ¬ T > 1125899906842624) : ¬ mn T 1125899906842625 > 1125899906842624 := by unfold mn; split <;> omega
theorem sum_ok {T y : Int} {i : Nat} (h0 : 0 ≤ T) (h1 : T ≤ (i : Int) * 1125899906842624) (hi : i ≤ 6655) (h2 : 1 ≤ y) (h3 : ¬ y > 1125899906842624) : T + y < 9223372036854775808 ∧ wrap64 (T + y) = T + y := by
  have : T + y < 9223372036854775808 := by omega
  exact ⟨this, w64 (by omega) this⟩
section
variable {b : Nat} (h2 : 2 ≤ b) (h8 : b ≤ 8)
include h2 h8
theorem form_ev (x : Int) : Ev (fun k => measure_bucketForm.f k (b : Int) x) (decide (0 ≤ x ∧ x ≤ (top b : Int))) := by
  rcases Int.lt_or_le x 0 with h0 | h0
  · refine ⟨0, fun k _ => ?_⟩
    show measure_bucketForm.f k (b : Int) x = _
    unfold measure_bucketForm.f
    rw [if_neg (by omega), decide_eq_false (by omega)]
  · obtain ⟨n, rfl⟩ := Int.eq_ofNat_of_zero_le h0
    refine ⟨1, fun k hk => ?_⟩
    obtain ⟨k, rfl⟩ : ∃ m, k = m + 1 := ⟨k - 1, by omega⟩
    show measure_bucketForm.f (k + 1) (b : Int) (n : Int) = _
    rw [formP (par_of b h2 h8) n k]
    congr 1
    by_cases h : n ≤ top b
    · rw [decide_eq_true h, decide_eq_true (by omega)]
    · rw [decide_eq_false h, decide_eq_false (by omega)]
theorem low_ev (x : Int) (hx : x ≤ 9223372036854775807) : ∃ t : Int, Ev (fun k => dynamometerref9_low.f k (b : Int) x) t ∧ (t < 0 ↔ ¬ (0 ≤ x ∧ x ≤ (top b : Int))) := by
  have P := par_of b h2 h8
  rcases Int.lt_or_le x 0 with h0 | h0
  · refine ⟨-1, ⟨0, fun k _ => ?_⟩, by omega⟩
    show dynamometerref9_low.f k (b : Int) x = _
    unfold dynamometerref9_low.f
    rw [if_pos h0]
  · obtain ⟨n, rfl⟩ := Int.eq_ofNat_of_zero_le h0
    by_cases hn : n < 2 * 2 ^ (b - 1)
    · refine ⟨(n : Int), ⟨1, fun k hk => ?_⟩, ?_⟩
      · obtain ⟨k, rfl⟩ : ∃ m, k = m + 1 := ⟨k - 1, by omega⟩
        exact low_lo P n k hn
      · have : n ≤ top b := lo_valid hn
        omega
    · obtain ⟨j, t, ht, hn'⟩ := decomp P n (by omega)
      have hv := valid_iff P (j := j) ht
      rw [← hn'] at hv
      have hl := fun k (hk : 50 - b ≤ k) => low_hi P j t k ht (by rw [← hn']; omega) hk
      rw [← hn'] at hl
      clear hn' hn
      replace hv : n ≤ top b ↔ j + 1 ≤ 50 - b := hv
      refine ⟨lowv (50 - b) j (2 ^ (b - 1) + t), ⟨50, fun k hk => ?_⟩, ?_⟩
      · obtain ⟨k, rfl⟩ : ∃ m, k = m + 1 := ⟨k - 1, by omega⟩
        exact hl k (by omega)
      · clear hl
        by_cases hj : j + 1 ≤ 50 - b
        · have h1 := hv.2 hj
          rw [lowv_pos hj]
          generalize (2 ^ (b - 1) + t) * 2 ^ (j + 1) = z
          generalize top b = T at h1
          omega
        · have h1 : ¬ n ≤ top b := fun h => hj (hv.1 h)
          rw [lowv_neg hj]
          generalize top b = T at h1
          omega
theorem chk_ev (l : List S44) (hwf : ∀ s ∈ l, s.f0 ≤ 9223372036854775807) : ∀ d i : Nat, i + d = l.length → Pre b l i → ∃ e : Int, Ev (fun k => measure_Check.l0 k (tot (l.take i)) l (l.length : Int) (i : Int) (b : Int) l) e ∧
    Ev (fun k => dynamometerref9_Check.l0 k (mn (tot (l.take i)) 1125899906842625) (i : Int) (b : Int) l) e ∧ (0 ≤ e ∧ e ≤ 20) ∧ (e = 0 ↔ Pre b l l.length ∧ tot l ≤ 1125899906842624) := by
  have ht := top_le b h2 h8
  intro d
  induction d with
  | zero =>
    intro i hi hp
    have e1 : i = l.length := by omega
    subst e1
    rw [List.take_length]
    have hs := hp.sum
    rw [List.take_length] at hs
    by_cases hT : tot l > 1125899906842624
    · refine ⟨3, Ev.step (f := fun _ => some 3) (fun k => ?_) (Ev.now _), Ev.step (f := fun _ => some 3) (fun k => ?_) (Ev.now _), by decide, by omega⟩
      · rw [measure_Check.l0, if_neg (by omega), if_pos hT]
      · rw [dynamometerref9_Check.l0, if_neg (by omega), if_pos (mn_gt hT)]
    · refine ⟨0, Ev.step (f := fun _ => some 0) (fun k => ?_) (Ev.now _), Ev.step (f := fun _ => some 0) (fun k => ?_) (Ev.now _), by decide, ?_⟩
      · rw [measure_Check.l0, if_neg (by omega), if_neg hT]
      · rw [dynamometerref9_Check.l0, if_neg (by omega), if_neg (mn_le hT)]
      · exact ⟨fun _ => ⟨hp, by omega⟩, fun _ => rfl⟩
  | succ d ih =>
    intro i hi hp
    have hil : i < l.length := by omega
    have hin := rd44_mem hil
    have hi9 : i ≤ 6656 := by
      by_cases h0 : i = 0
      · omega
      · obtain ⟨a, _, h3, h4⟩ := hp.place (i - 1) (by omega)
        omega
    have hfe := form_ev h2 h8 (rd_T44 l (i : Int)).f0
    obtain ⟨t, hle0, htn⟩ := low_ev h2 h8 (rd_T44 l (i : Int)).f0 (hwf _ hin)
    by_cases hv : 0 ≤ (rd_T44 l (i : Int)).f0 ∧ (rd_T44 l (i : Int)).f0 ≤ (top b : Int)
    · obtain ⟨a, ha⟩ := Int.eq_ofNat_of_zero_le hv.1
      have hat : a ≤ top b := by omega
      rw [decide_eq_true hv] at hfe
      have ht0 : ¬ t < 0 := fun h => (htn.1 h) hv
      -- what both do behind the order's test
      have hj : ∀ q : Bool, q = decide (¬ (i = 0 ∨ (rd_T44 l ((i - 1 : Nat) : Int)).f0 < (a : Int))) → ∃ e : Int, Ev (fun k => measure_Check.j1 k (tot (l.take i)) l (l.length : Int) (i : Int) q (b : Int) l (rd_T44 l (i : Int)).f0 (rd_T44 l (i : Int)).f1) e ∧
          Ev (fun k => dynamometerref9_Check.j1 k (mn (tot (l.take i)) 1125899906842625) (i : Int) q (b : Int) l (rd_T44 l (i : Int)).f0 (rd_T44 l (i : Int)).f1) e ∧ (0 ≤ e ∧ e ≤ 20) ∧ (e = 0 ↔ Pre b l l.length ∧ tot l ≤ 1125899906842624) := by
        intro q hq
        by_cases hr : i = 0 ∨ (rd_T44 l ((i - 1 : Nat) : Int)).f0 < (a : Int)
        · rw [decide_eq_false (fun h => h hr)] at hq
          subst hq
          by_cases h1 : (rd_T44 l (i : Int)).f1 < 1
          · refine ⟨9, Ev.step (f := fun _ => some 9) (fun k => ?_) (Ev.now _), Ev.step (f := fun _ => some 9) (fun k => ?_) (Ev.now _), by decide, fun h => absurd h (by decide), fun h => ?_⟩
            · rw [measure_Check.j1, if_neg (by decide), if_pos h1]
            · rw [dynamometerref9_Check.j1, if_neg (by decide), if_pos h1]
            · have := h.1.pos i hil
              omega
          · by_cases h3 : (rd_T44 l (i : Int)).f1 > 1125899906842624
            · refine ⟨9, Ev.step (f := fun _ => some 9) (fun k => ?_) (Ev.now _), Ev.step (f := fun _ => some 9) (fun k => ?_) (Ev.now _), by decide, fun h => absurd h (by decide), fun h => ?_⟩
              · rw [measure_Check.j1, if_neg (by decide), if_neg h1, if_pos h3]
              · rw [dynamometerref9_Check.j1, if_neg (by decide), if_neg h1, if_pos h3]
              · have := h.1.pos i hil
                omega
            · have hps := pre_succ hp hil ha hat hr (by omega) (by omega)
              obtain ⟨e, hm, hrf, he⟩ := ih (i + 1) (by omega) hps
              obtain ⟨a', ea, _, hia⟩ := hps.place i (by omega)
              have hs := hp.sum
              have hs' := hps.sum
              have hi6 : i ≤ 6655 := by omega
              rw [tot_succ hil] at hm hrf hs'
              obtain ⟨s1, s2⟩ := sum_ok hs.1 hs.2 hi6 (by omega) h3
              have ew : wrap64 ((i : Int) + 1) = ((i + 1 : Nat) : Int) := add1N i (by omega)
              refine ⟨e, Ev.step (fun k => ?_) hm, Ev.step (fun k => ?_) hrf, he⟩
              · rw [measure_Check.j1, if_neg (by decide), if_neg h1, if_neg h3, s2, ew]
              · rw [dynamometerref9_Check.j1, if_neg (by decide), if_neg h1, if_neg h3, mn_step _ _ hs.1 (by omega) s1, ew]
        · rw [decide_eq_true hr] at hq
          subst hq
          refine ⟨10, Ev.step (f := fun _ => some 10) (fun k => ?_) (Ev.now _), Ev.step (f := fun _ => some 10) (fun k => ?_) (Ev.now _), by decide, fun h => absurd h (by decide), fun h => ?_⟩
          · rw [measure_Check.j1, if_pos rfl]
          · rw [dynamometerref9_Check.j1, if_pos rfl]
          · exfalso
            apply hr
            by_cases h0 : i = 0
            · exact .inl h0
            · right
              have := h.1.rising (i - 1) i (by omega) hil
              omega
      have HT := Aside0.mk ht0
      obtain ⟨q, hq⟩ : ∃ q, q = decide (¬ (i = 0 ∨ (rd_T44 l ((i - 1 : Nat) : Int)).f0 < (a : Int))) := ⟨_, rfl⟩
      obtain ⟨e, hm, hrf, he⟩ := hj q hq
      clear hj ih htn hat hv
      refine ⟨e, Ev.step (f := fun k => (measure_bucketForm.f k (b : Int) (rd_T44 l (i : Int)).f0).bind fun t => if t = true then measure_Check.j1 k (tot (l.take i)) l (l.length : Int) (i : Int) q (b : Int) l (rd_T44 l (i : Int)).f0 (rd_T44 l (i : Int)).f1 else some 9) (fun k => ?_) (Ev.bind hfe (Ev.congr (fun k => if_pos rfl) hm)),
        Ev.step (f := fun k => (dynamometerref9_low.f k (b : Int) (rd_T44 l (i : Int)).f0).bind fun t => if t < 0 then some 9 else dynamometerref9_Check.j1 k (mn (tot (l.take i)) 1125899906842625) (i : Int) q (b : Int) l (rd_T44 l (i : Int)).f0 (rd_T44 l (i : Int)).f1) (fun k => ?_) (Ev.bind hle0 (Ev.congr (fun k => if_neg ht0) hrf)), he⟩
      · rw [measure_Check.l0, if_pos (by omega), if_pos (by omega), if_pos (by omega)]
        congr 1
        funext t
        cases t
        · rfl
        · rw [if_pos rfl, if_pos rfl]
          by_cases h0 : i = 0
          · rw [if_neg (by omega), hq, decide_eq_false (by simp [h0])]
          · have ew : wrap64 ((i : Int) - 1) = ((i - 1 : Nat) : Int) := sub1N i (by omega) (by omega)
            rw [if_pos (by omega), ew, if_pos (by omega), if_pos (by omega), hq, decide_eq_decide.2 (show _ ↔ ¬ (i = 0 ∨ (rd_T44 l ((i - 1 : Nat) : Int)).f0 < (a : Int)) by rw [ha]; omega)]
      · rw [dynamometerref9_Check.l0, if_pos (by omega), if_pos (by omega)]
        congr 1
        funext t
        by_cases hn : t < 0
        · rw [if_pos hn, if_pos hn]
        · rw [if_neg hn, if_neg hn]
          by_cases h0 : i = 0
          · rw [if_neg (by omega), hq, decide_eq_false (by simp [h0])]
          · have ew : wrap64 ((i : Int) - 1) = ((i - 1 : Nat) : Int) := sub1N i (by omega) (by omega)
            rw [if_pos (by omega), ew, if_pos (by omega), if_pos (by omega), hq, decide_eq_decide.2 (show _ ↔ ¬ (i = 0 ∨ (rd_T44 l ((i - 1 : Nat) : Int)).f0 < (a : Int)) by rw [ha]; omega)]
    · rw [decide_eq_false hv] at hfe
      have ht0 : t < 0 := htn.2 hv
      refine ⟨9, ?_, ?_, by decide, fun h => absurd h (by decide), fun h => ?_⟩
      · obtain ⟨K, hK⟩ := hfe
        refine ⟨K + 1, fun k hk => ?_⟩
        obtain ⟨k, rfl⟩ : ∃ m, k = m + 1 := ⟨k - 1, by omega⟩
        have hK' : measure_bucketForm.f k (b : Int) (rd_T44 l (i : Int)).f0 = some false := hK k (by omega)
        show measure_Check.l0 (k + 1) (tot (l.take i)) l (l.length : Int) (i : Int) (b : Int) l = _
        rw [measure_Check.l0, if_pos (by omega), if_pos (by omega), if_pos (by omega), hK']
        rfl
      · obtain ⟨K, hK⟩ := hle0
        refine ⟨K + 1, fun k hk => ?_⟩
        obtain ⟨k, rfl⟩ : ∃ m, k = m + 1 := ⟨k - 1, by omega⟩
        have hK' : dynamometerref9_low.f k (b : Int) (rd_T44 l (i : Int)).f0 = some t := hK k (by omega)
        show dynamometerref9_Check.l0 (k + 1) (mn (tot (l.take i)) 1125899906842625) (i : Int) (b : Int) l = _
        rw [dynamometerref9_Check.l0, if_pos (by omega), if_pos (by omega), hK', Option.bind_some, if_pos ht0]
      · obtain ⟨a, h1, h2, _⟩ := h.1.place i hil
        omega
/-- Check of the number of bits b: what both find, and that nothing is found of a valid histogram alone. -/
theorem chk_bits (l : List S44) (hwf : ∀ s ∈ l, s.f0 ≤ 9223372036854775807) : ∃ e : Int, Ev (fun k => measure_Check.f k (b : Int) l) e ∧ Ev (fun k => dynamometerref9_Check.f k (b : Int) l) e ∧ (0 ≤ e ∧ e ≤ 20) ∧ (e = 0 ↔ Valid b l) := by
  obtain ⟨e, h3, h4, h5, h6⟩ := chk_ev h2 h8 l hwf l.length 0 (by omega) (pre_zero b l)
  rw [List.take_zero] at h3 h4
  refine ⟨e, Ev.congr (fun k => ?_) h3, Ev.congr (fun k => ?_) h4, h5, h6.trans (pre_valid h2 h8)⟩
  · unfold measure_Check.f
    rw [mform, decide_eq_true (by omega), Option.bind_some, if_pos rfl]
    rfl
  · unfold dynamometerref9_Check.f
    rw [rform, decide_eq_true (by omega), Option.bind_some, if_pos rfl]
    rfl
end
/-- Check, for all histograms. -/
theorem chk_all (bits : Int) (l : List S44) (hwf : ∀ s ∈ l, s.f0 ≤ 9223372036854775807) : ∃ e : Int, Ev (fun k => measure_Check.f k bits l) e ∧ Ev (fun k => dynamometerref9_Check.f k bits l) e ∧ (0 ≤ e ∧ e ≤ 20) ∧ (e = 0 ↔ ∃ b : Nat, bits = (b : Int) ∧ Valid b l) := by
  by_cases h : 2 ≤ bits ∧ bits ≤ 8
  · obtain ⟨b, rfl⟩ := Int.eq_ofNat_of_zero_le (show 0 ≤ bits by omega)
    obtain ⟨e, h3, h4, h5, h6⟩ := chk_bits (b := b) (by omega) (by omega) l hwf
    refine ⟨e, h3, h4, h5, fun h => ⟨b, rfl, h6.1 h⟩, fun ⟨b', e', hv⟩ => h6.2 ?_⟩
    obtain rfl : b = b' := by omega
    exact hv
  · refine ⟨9, Ev.congr (f := fun _ => some 9) (fun k => ?_) (Ev.now _), Ev.congr (f := fun _ => some 9) (fun k => ?_) (Ev.now _), by decide, fun h => absurd h (by decide), fun ⟨b, e, hv⟩ => ?_⟩
    · unfold measure_Check.f
      rw [mform, decide_eq_false h]
      rfl
    · unfold dynamometerref9_Check.f
      rw [rform, decide_eq_false h]
      rfl
    · have := hv.b2
      have := hv.b8
      omega
end Go.Proofs.YtlkameeaaplonaaDoor

/- The total of a valid histogram, by measure and by its reference. -/
namespace Go.Proofs.YtlkameeaaplonaaDoor
open Go.RowKit Go.Proofs.YtlkameeaaplonaaDoor.QMeasureOfMatchesSpec Go.Proofs.YtlkameeaaplonaaDoorW.PrintWords Go.Proofs.YtlkameeaaplonaaDoorW.PrintLast Go.Proofs.YtlkameeaaplonaaDoorW.PrintMore
set_option linter.unusedVariables false
theorem tot_step {l : List S44} (h : ∀ s ∈ l, 1 ≤ s.f1) (ht : tot l ≤ 1125899906842624) {i : Nat} (hi : i < l.length) : wrap64 (tot (l.take i) + (rd_T44 l (i : Int)).f1) = tot (l.take (i + 1)) := by
  have h1 := tot_take_le l (i + 1) (fun s hs' => by have := h s hs'; omega)
  rw [← tot_succ hi]
  exact w64 (by omega) (by omega)
theorem total_ev {l : List S44} (bits : Int) (h : ∀ s ∈ l, 1 ≤ s.f1) (ht : tot l ≤ 1125899906842624) (hl : l.length ≤ 1000000) : Ev (fun k => measure_total.f k bits l) (tot l) := by
  have key : ∀ (d i : Nat), i + d = l.length → Ev (fun k => measure_total.l0 k (tot (l.take i)) l (l.length : Int) (i : Int)) (tot l) := by
    intro d
    induction d with
    | zero =>
      intro i hi
      refine Ev.step (f := fun _ => some (tot l)) (fun k => ?_) (Ev.now _)
      rw [measure_total.l0, if_neg (by omega), List.take_of_length_le (by omega)]
    | succ d ih =>
      intro i hi
      refine Ev.step (fun k => ?_) (ih (i + 1) (by omega))
      rw [measure_total.l0, if_pos (by omega), if_pos (by omega), if_pos (by omega), tot_step h ht (by omega), add1N i (by omega)]
  exact Ev.congr (fun k => rfl) (key l.length 0 (by omega))
theorem rtotal_ev {l : List S44} (bits : Int) (h : ∀ s ∈ l, 1 ≤ s.f1) (ht : tot l ≤ 1125899906842624) (hl : l.length ≤ 1000000) : Ev (fun k => dynamometerref9_total.f k bits l) (tot l) := by
  have key : ∀ (d i : Nat), i + d = l.length → Ev (fun k => dynamometerref9_total.l0 k (tot (l.take i)) (i : Int) bits l) (tot l) := by
    intro d
    induction d with
    | zero =>
      intro i hi
      refine Ev.step (f := fun _ => some (tot l)) (fun k => ?_) (Ev.now _)
      rw [dynamometerref9_total.l0, if_neg (by omega), List.take_of_length_le (by omega)]
    | succ d ih =>
      intro i hi
      refine Ev.step (fun k => ?_) (ih (i + 1) (by omega))
      rw [dynamometerref9_total.l0, if_pos (by omega), if_pos (by omega), tot_step h ht (by omega), add1N i (by omega)]
  exact Ev.congr (fun k => rfl) (key l.length 0 (by omega))
theorem valid_wf {b : Nat} {l : List S44} (h : Valid b l) : ∀ s ∈ l, (Lit.int .i64 s.f0).wf = true ∧ (Lit.int .i64 s.f1).wf = true := fun s hs' => by
  obtain ⟨h1, h2⟩ := valid_bound h s hs'
  exact ⟨WalkArith.wf_i64 (by omega), WalkArith.wf_i64 (by omega)⟩
theorem valid_f0 {b : Nat} {l : List S44} (h : Valid b l) : ∀ s ∈ l, s.f0 ≤ 9223372036854775807 := fun s hs' => by
  obtain ⟨h1, h2⟩ := valid_bound h s hs'
  omega
end Go.Proofs.YtlkameeaaplonaaDoor

/- Record: one more value. Conditions: as each theorem says. -/
namespace Go.Proofs.YtlkameeaaplonaaDoor
open Go.Shelf Go.RowKit Go.Maps Go.Proofs.YtlkameeaaplonaaDoor.QMeasureOfMatchesSpec
open Go.Proofs.YtlkameeaaplonaaDoorW.PrintWords Go.Proofs.YtlkameeaaplonaaDoorW.PrintLast Go.Proofs.YtlkameeaaplonaaDoorW.PrintMore
set_option linter.unusedVariables false
set_option maxRecDepth 100000 in
set_option maxHeartbeats 4000000 in
theorem rec14g (b : Nat) (A : Option Addr) (c : Nat) (l : List S44) (v n : Int) (w : World) (hV : Valid b l) (hC : Kd.C k44 w A l.length l) (hc : l.length ≤ c) (hv : okV v) (hn0 : 0 ≤ n) (hn1 : n ≤ 1125899906842624) (ht : tot l + n ≤ 1125899906842624) :
    Calls Tryd.prog 14 #[.agg #[.int .i64 (b : Int), .slice A l.length c], .int .i64 v, .int .i64 n] w fun e w' => ∃ (P : Option Addr) (d : Nat) (r : List S44), e = .returned (.tuple #[.agg #[.int .i64 (b : Int), .slice P r.length d], .int .i64 0]) ∧ r.length ≤ d ∧
      Kd.C k44 w' P r.length r ∧ Below w.heap.size w w' ∧ IsHist (fun y => hs l y + if bkt b v = y then n else 0) r := by
  obtain ⟨W0, hW0⟩ : ∃ W0, (w.alloc (.cells #[.int .i64 (b : Int), .slice A l.length c] 25)).alloc (.cells #[.int .i64 0, .slice none 0 0] 25) = W0 := ⟨_, rfl⟩
  have hB0 : Below w.heap.size w W0 := by rw [← hW0]; exact ((Below.refl _ w).alloc (Nat.le_refl _) _).alloc (by simp) _
  have hs0 : W0.heap.size = w.heap.size + 2 := by rw [← hW0]; simp
  have b0 : W0.heap[w.heap.size]? = some (hbx (b : Int) A l.length c) := by rw [← hW0]; exact (Below.heap_alloc _ _ _ (by simp)).trans (heap_alloc_new w _)
  have b1 : W0.heap[w.heap.size + 1]? = some (hbx 0 none 0 0) := by rw [← hW0]; have := bx_alloc (w.alloc (.cells #[.int .i64 (b : Int), .slice A l.length c] 25)) 0 none 0 0; simpa using this
  have hfr : ∀ W : World, Below W0.heap.size W0 W → (W.cell? ⟨w.heap.size, 0, none⟩ = some (.int .i64 (b : Int)) ∧ W.cell? ⟨w.heap.size, 1, none⟩ = some (.slice A l.length c)) ∧ Below W0.heap.size W0 W := fun W h =>
    ⟨bx_cells ((h.block _ (by omega)).trans b0), h⟩
  have hCa : ∀ W, Below W0.heap.size W0 W → Kd.C k44 W A l.length l := fun W h => Kd.C_below hC (hB0.trans (Below.mono h (by omega)))
  obtain ⟨e, hce, _, _, he⟩ := chk_bits hV.b2 hV.b8 l (valid_f0 hV)
  obtain rfl := he.2 hV
  obtain ⟨k0, hk0⟩ := hce.rounds
  obtain ⟨k1, hk1⟩ := (total_ev (b : Int) hV.pos hV.total (by have := valid_len hV; omega)).rounds
  have hl := valid_len hV
  obtain ⟨hbk, ⟨ab, hab, hab2⟩, hb0, hb1⟩ := bkt_ok hV.b2 hV.b8 hv
  have hwf := valid_wf hV
  have hcb := measure_Check.calls k0 (b : Int) A c l 0 W0 (hCa _ (Below.refl _ _)) hc hk0
  have d1 : decide (v < 0) = false := decide_eq_false (by omega)
  have d2 : decide (1125899906842623 < v) = false := decide_eq_false (by omega)
  have d3 : decide (n < 0) = false := decide_eq_false (by omega)
  have d4 : decide (1125899906842624 < n) = false := decide_eq_false (by omega)
  have ht0 := tot_nonneg l (fun s hs' => by have := hV.pos s hs'; omega)
  have hw : IntKind.i64.wrap (tot l + n) = tot l + n := by rw [i64_w, w64 (by omega) (by omega)]
  have d5 : decide (1125899906842624 < tot l + n) = false := decide_eq_false (by omega)
  obtain ⟨⟨f0, f1⟩, -⟩ := hfr W0 (Below.refl _ _)
  clear hab hab2 he hce b0
  go_enter Tryd.func14, Tryd.ntmps14
  go_wp2_with (first
    | (go_at_call 37; refine (tallyOfG (b : Int) A c l w2 (hCa _ hB2) hV.rising (by omega) hwf).mono ?_; clear f0 f1; rintro e w3 ⟨m, D, rfl, hm, hown, hcn, hB3⟩; have hB3' := hB2.trans (Below.mono hB3 hB2.size); obtain ⟨⟨f0, f1⟩, -⟩ := hfr w3 hB3'; have hat0 := cn_atKey hcn hown (bkt b v) (WalkArith.wf_i64 (by omega)); refine Hid.out ?_)
    | (go_at_call 36; refine (measure_total.calls k1 (b : Int) A c l (tot l) w1 (hCa _ hB1) hc hk1).mono ?_; clear f0 f1; rintro e w2 ⟨rfl, hBt2⟩; have hB2 := hB1.trans (Below.mono hBt2 hB1.size); obtain ⟨⟨f0, f1⟩, -⟩ := hfr w2 hB2)
    | (go_at_call 9; refine hcb.mono ?_; clear f0 f1; rintro e w1 ⟨rfl, hB1⟩; obtain ⟨⟨f0, f1⟩, -⟩ := hfr w1 hB1)
    | go_in)
  refine Lib.hid ?_

  have hF0 := hs_nonneg (bkt b v) l (fun s hs' => by have := hV.pos s hs'; omega)
  have hF1 := hs_le_tot (bkt b v) l (fun s hs' => by have := hV.pos s hs'; omega)
  have hwv : (Lit.int .i64 (hs l (bkt b v) + n)).wf = true := WalkArith.wf_i64 (by omega)
  have hwb : (Lit.int .i64 (bkt b v)).wf = true := WalkArith.wf_i64 (by omega)
  have hbc := fun W => measure_bucket.calls 1 (b : Int) v (bkt b v) W (hbk 0)
  have hcn' := hcn.add (bkt b v) n _ rfl
  have hkm : l.length < maxLen := by
    have : (1000000 : Nat) < maxLen := by decide
    omega
  have hmW : W0.heap.size ≤ m := Nat.le_trans hB2.size hm
  have hml := hown.lt
  have HC := Aside0.mk hcn'
  clear hcn' hcn hbk hcb hk0 hk1 hwf d1 d2 d3 d4 d5 hw hB1 hBt2 hB2
  go_wp2_with (first
    | (go_at_call 38; refine (hbc _).mono ?_; rintro e w' ⟨rfl, ⟨nd, rfl⟩⟩)
    | (at_lookup; refine wpList_lookup_own_int _ rfl _ _ 58 rfl 3 3 .i64 law3 Tryd.underlying58 Tryd.underlying3 (zero3 _) m l.length _ rfl (show World.ownsMap (w3.drewN nd) _ _ _ _ _ _ from hown) _ _ rfl (keyOf_int_mk Tryd.underlying3 hwb) ?_; intro cc hat hwc; obtain rfl : hs l (bkt b v) = cc := (by rw [hat0] at hat; simpa using hat))
    | (at_mapUpdate; refine wpList_mapUpdate_own _ rfl _ _ _ 58 rfl 3 3 law3 Tryd.underlying58 _ m l.length _ rfl (show World.ownsMap (w3.drewN nd) _ _ _ _ _ _ from hown) hkm _ _ _ rfl rfl (keyOf_int_mk Tryd.underlying3 hwb) _ [] (plainElem_int Tryd.underlying3 hwv) ?_; intro w4 hown4 hgrow4; have hB4 : Below W0.heap.size W0 w4 := Below.grown (pw_below_drewN hB3' nd) hgrow4 hB3'.size (fun j hj => by have := Option.some.inj hj; omega); obtain ⟨⟨f0, f1⟩, -⟩ := hfr w4 hB4)
    | (go_at_call 39; refine (hist35 m _ _ (b : Int) w4 hown4 (by have := HC.out.size; omega)).mono ?_; rintro e w5 ⟨v5, xs5, rfl, hV5, hB5, hr5, hw5, hm5⟩; have hH := cn_hist HC.out hr5 hm5; generalize cnts _ xs5 = r5 at hV5 hH; have e0 := (hB5.block _ (by have := hB4.size; omega)).trans ((hB4.block _ (by omega)).trans b1); obtain ⟨P5, c5, rfl, hc5, hC5⟩ := ans_of_V hV5; obtain ⟨g0, g1⟩ := bx_cells e0; obtain ⟨g2, g3⟩ := bx_free e0)
    | go_in)
  have e2 := bx_store e0 (b : Int) P5 r5.length c5
  (try simp only [Exit.inBlock, Exit.then])
  refine bodyPost_ret (results_ct rfl _ _ (w.heap.size + 1) 25 #[.int .i64 (b : Int), .slice P5 r5.length c5] (0, 0) _ rfl e2 Tryd.underlying25 rfl (by kernel_rfl)) rfl ?_
  refine ⟨P5, c5, _, rfl, hc5, ?_, ?_, hH⟩
  · exact V_store hV5 (by have := hB4.size; omega) _ _
  · exact ((hB0.trans ((Below.mono hB4 (by omega)).trans (Below.mono hB5 (by have := hB4.size; omega)))).setCell (p := ⟨w.heap.size + 1, 0, none⟩) (by simp) _).setCell (p := ⟨w.heap.size + 1, 1, none⟩) (by simp) _
set_option maxRecDepth 100000 in
set_option maxHeartbeats 4000000 in
theorem rec14f (bits : Int) (A : Option Addr) (c : Nat) (l : List S44) (v n f : Int) (w : World) (hC : Kd.C k44 w A l.length l) (hc : l.length ≤ c)
    (h : (∃ k0, measure_Check.f k0 bits l = some f ∧ (f != 0) = true) ∨
      (f = 9 ∧ (∃ k0, measure_Check.f k0 bits l = some 0) ∧ (decide (v < 0) = true ∨ (decide (v < 0) = false ∧ decide (1125899906842623 < v) = true) ∨ (decide (v < 0) = false ∧ decide (1125899906842623 < v) = false ∧ decide (n < 0) = true) ∨
        (decide (v < 0) = false ∧ decide (1125899906842623 < v) = false ∧ decide (n < 0) = false ∧ decide (1125899906842624 < n) = true))) ∨
      (f = 3 ∧ (∃ k0, measure_Check.f k0 bits l = some 0) ∧ decide (v < 0) = false ∧ decide (1125899906842623 < v) = false ∧ decide (n < 0) = false ∧ decide (1125899906842624 < n) = false ∧
        ∃ k1 s, measure_total.f k1 bits l = some s ∧ 0 ≤ s ∧ s ≤ 1125899906842624 ∧ 0 ≤ n ∧ n ≤ 1125899906842624 ∧ decide (1125899906842624 < s + n) = true)) :
    Ans 14 #[.agg #[.int .i64 bits, .slice A l.length c], .int .i64 v, .int .i64 n] w (0, [], f) := by
  obtain ⟨W0, hW0⟩ : ∃ W0, (w.alloc (.cells #[.int .i64 bits, .slice A l.length c] 25)).alloc (.cells #[.int .i64 0, .slice none 0 0] 25) = W0 := ⟨_, rfl⟩
  have hB0 : Below w.heap.size w W0 := by rw [← hW0]; exact ((Below.refl _ w).alloc (Nat.le_refl _) _).alloc (by simp) _
  have hs0 : W0.heap.size = w.heap.size + 2 := by rw [← hW0]; simp
  have b0 : W0.heap[w.heap.size]? = some (hbx bits A l.length c) := by rw [← hW0]; exact (Below.heap_alloc _ _ _ (by simp)).trans (heap_alloc_new w _)
  have b1 : W0.heap[w.heap.size + 1]? = some (hbx 0 none 0 0) := by rw [← hW0]; have := bx_alloc (w.alloc (.cells #[.int .i64 bits, .slice A l.length c] 25)) 0 none 0 0; simpa using this
  have hfr : ∀ W : World, Below W0.heap.size W0 W → (W.cell? ⟨w.heap.size, 0, none⟩ = some (.int .i64 bits) ∧ W.cell? ⟨w.heap.size, 1, none⟩ = some (.slice A l.length c)) ∧ Below W0.heap.size W0 W := fun W h =>
    ⟨bx_cells ((h.block _ (by omega)).trans b0), h⟩
  have hCa : ∀ W, Below W0.heap.size W0 W → Kd.C k44 W A l.length l := fun W h => Kd.C_below hC (hB0.trans (Below.mono h (by omega)))
  obtain ⟨⟨f0, f1⟩, -⟩ := hfr W0 (Below.refl _ _)
  have fin : ∀ W, Below W0.heap.size W0 W → ((W.cell? ⟨w.heap.size + 1, 0, none⟩ = some (.int .i64 0) ∧ W.cell? ⟨w.heap.size + 1, 1, none⟩ = some (.slice none 0 0)) ∧ W.frozen? ⟨w.heap.size + 1, 0, none⟩ = false ∧ W.frozen? ⟨w.heap.size + 1, 1, none⟩ = false) ∧
      ((W.setCell ⟨w.heap.size + 1, 0, none⟩ (.int .i64 0)).setCell ⟨w.heap.size + 1, 1, none⟩ (.slice none 0 0)).heap[w.heap.size + 1]? = some (hbx 0 none 0 0) ∧ Below w.heap.size w ((W.setCell ⟨w.heap.size + 1, 0, none⟩ (.int .i64 0)).setCell ⟨w.heap.size + 1, 1, none⟩ (.slice none 0 0)) := fun W h => by
    have e0 := (h.block _ (by omega)).trans b1
    exact ⟨⟨bx_cells e0, bx_free e0⟩, bx_store e0 0 none 0 0, (((hB0.trans (Below.mono h (by omega))).setCell (p := ⟨w.heap.size + 1, 0, none⟩) (by simp) _).setCell (p := ⟨w.heap.size + 1, 1, none⟩) (by simp) _)⟩
  rcases h with ⟨k0, hk0, d0⟩ | ⟨rfl, ⟨k0, hk0⟩, d0 | ⟨d0, d1⟩ | ⟨d0, d1, d2⟩ | ⟨d0, d1, d2, d3⟩⟩ | ⟨rfl, ⟨k0, hk0⟩, d0, d1, d2, d3, k1, s, hk1, d4, d5, d6, d7, d8⟩
  all_goals
    have hcb := measure_Check.calls k0 bits A c l _ W0 (hCa _ (Below.refl _ _)) hc hk0
    clear hk0 b0 b1
    go_enter Tryd.func14, Tryd.ntmps14
    go_wp2_with (first
      | (go_at_call 36; refine (measure_total.calls k1 bits A c l s w1 (hCa _ hB1) hc hk1).mono ?_; clear f0 f1 hk1; rintro e w2 ⟨rfl, hBt2⟩; have hB2 := hB1.trans (Below.mono hBt2 hB1.size); have HF := Aside0.mk (fin w2 hB2); obtain ⟨⟨⟨g0, g1⟩, g2, g3⟩, -⟩ := fin w2 hB2)
      | (go_at_call 9; refine hcb.mono ?_; clear hcb f0 f1; rintro e w1 ⟨rfl, hB1⟩; obtain ⟨⟨f0, f1⟩, -⟩ := hfr w1 hB1; have HF := Aside0.mk (fin w1 hB1); obtain ⟨⟨⟨g0, g1⟩, g2, g3⟩, -⟩ := fin w1 hB1)
      | go_in)
    (try simp only [Exit.inBlock, Exit.then])
    refine bodyPost_ret (results_ct rfl _ _ (w.heap.size + 1) 25 #[.int .i64 0, .slice none 0 0] (0, 0) _ rfl HF.out.2.1 Tryd.underlying25 rfl (by kernel_rfl)) rfl ?_
    exact ⟨none, 0, rfl, Nat.le_refl _, C_nil _, HF.out.2.2⟩
end Go.Proofs.YtlkameeaaplonaaDoor

/- More of a bucket, by the reference. Condition: the histogram is short, its counts are in 64 bits with what comes. -/
namespace Go.Proofs.YtlkameeaaplonaaDoor
open Go.RowKit Go.Proofs.YtlkameeaaplonaaDoor.QMeasureOfMatchesSpec Go.Proofs.YtlkameeaaplonaaDoorW.PrintWords Go.Proofs.YtlkameeaaplonaaDoorW.PrintLast Go.Proofs.YtlkameeaaplonaaDoorW.PrintMore
set_option linter.unusedVariables false
set_option linter.unusedSimpArgs false
/-- A histogram with n more of x, n above 0. -/
def moreL (x n : Int) : List S44 → List S44
  | [] => [⟨x, n⟩]
  | s :: r => if s.f0 ≥ x then (if s.f0 = x then ⟨s.f0, s.f1 + n⟩ :: r else ⟨x, n⟩ :: s :: r) else s :: moreL x n r
theorem hs_moreL (x n y : Int) : ∀ l : List S44, hs (moreL x n l) y = hs l y + if x = y then n else 0
  | [] => by simp [moreL, hs]
  | s :: r => by
    rw [moreL]
    split
    · split
      · rename_i h1 h2
        show (if s.f0 = y then s.f1 + n else 0) + hs r y = _
        rw [hs, h2]
        split <;> omega
      · show (if x = y then n else 0) + hs (s :: r) y = _
        omega
    · rw [hs, hs, hs_moreL x n y r]
      omega
theorem moreL_mem (x n : Int) (s : S44) : ∀ l : List S44, s ∈ moreL x n l → s.f0 = x ∨ ∃ t ∈ l, t.f0 = s.f0
  | [], h => by
    simp [moreL] at h
    exact .inl (by rw [h])
  | t :: r, h => by
    rw [moreL] at h
    split at h
    · split at h
      · rcases List.mem_cons.1 h with rfl | h
        · exact .inr ⟨t, by simp, rfl⟩
        · exact .inr ⟨s, by simp [h], rfl⟩
      · rcases List.mem_cons.1 h with rfl | h
        · exact .inl rfl
        · exact .inr ⟨s, h, rfl⟩
    · rcases List.mem_cons.1 h with rfl | h
      · exact .inr ⟨s, by simp, rfl⟩
      · rcases moreL_mem x n s r h with h | ⟨u, hu, e⟩
        · exact .inl h
        · exact .inr ⟨u, by simp [hu], e⟩
theorem moreL_rising (x n : Int) : ∀ l : List S44, (l.map (·.f0)).Pairwise (· < ·) → ((moreL x n l).map (·.f0)).Pairwise (· < ·)
  | [], _ => by simp [moreL]
  | s :: r, h => by
    have h' := h
    rw [List.map_cons, List.pairwise_cons] at h'
    rw [moreL]
    split
    · split
      · exact h
      · rename_i h1 h2
        rw [List.map_cons, List.pairwise_cons]
        refine ⟨fun y hy => ?_, h⟩
        rcases List.mem_cons.1 hy with rfl | hy
        · show x < s.f0
          omega
        · have := h'.1 y hy
          show x < y
          omega
    · rename_i h1
      rw [List.map_cons, List.pairwise_cons]
      refine ⟨fun y hy => ?_, moreL_rising x n r h'.2⟩
      obtain ⟨t, ht, rfl⟩ := List.mem_map.1 hy
      rcases moreL_mem x n t r ht with e | ⟨u, hu, e⟩
      · rw [e]
        omega
      · rw [← e]
        exact h'.1 _ (List.mem_map.2 ⟨u, hu, rfl⟩)
theorem moreL_pos (x n : Int) (hn : 0 < n) : ∀ l : List S44, (∀ s ∈ l, 0 < s.f1) → ∀ s ∈ moreL x n l, 0 < s.f1
  | [], _, s, h => by
    simp [moreL] at h
    rw [h]
    exact hn
  | t :: r, hp, s, h => by
    have ht := hp t (by simp)
    rw [moreL] at h
    split at h
    · split at h
      · rcases List.mem_cons.1 h with rfl | h
        · show 0 < t.f1 + n
          omega
        · exact hp s (by simp [h])
      · rcases List.mem_cons.1 h with rfl | h
        · exact hn
        · exact hp s h
    · rcases List.mem_cons.1 h with rfl | h
      · exact ht
      · exact moreL_pos x n hn r (fun u hu => hp u (by simp [hu])) s h
theorem moreL_len (x n : Int) : ∀ l : List S44, (moreL x n l).length ≤ l.length + 1
  | [] => by simp [moreL]
  | s :: r => by
    rw [moreL]
    have := moreL_len x n r
    split
    · split <;> simp
    · simp
      omega
/-- More of a bucket. -/
def moreF (x n : Int) (l : List S44) : List S44 := if n = 0 then l else moreL x n l
/-- A histogram with the counts F, short. -/
structure IsH (F : Int → Int) (m : Nat) (l : List S44) : Prop where
  hist : IsHist F l
  len : l.length ≤ m
theorem isH_nil (m : Nat) : IsH (fun _ => 0) m [] := ⟨⟨by simp, fun s => by simp; omega⟩, by simp⟩
theorem isH_more {F : Int → Int} {m : Nat} {l : List S44} (h : IsH F m l) (h0 : ∀ x, 0 ≤ F x) (x n : Int) (hn : 0 ≤ n) : IsH (fun y => F y + if x = y then n else 0) (m + 1) (moreF x n l) := by
  unfold moreF
  by_cases h1 : n = 0
  · rw [if_pos h1]
    exact ⟨h.hist.congr (fun y => by split <;> omega), by have := h.len; omega⟩
  · rw [if_neg h1]
    refine ⟨(isHist_hs (moreL_rising x n l h.hist.rising) (moreL_pos x n (by omega) l h.hist.pos)).congr fun y => ?_, by have := moreL_len x n l; have := h.len; omega⟩
    rw [hs_moreL, h.hist.eq h0]
theorem more_done (x n bits : Int) (l : List S44) (hl : l.length ≤ 1000000) : ∀ (d i : Nat) (out : List S44), i + d = l.length → out.length ≤ i + 1 → Ev (fun k => dynamometerref9_more.l0 k x n true (i : Int) bits l bits out) (bits, out ++ l.drop i) := by
  intro d
  induction d with
  | zero =>
    intro i out hi ho
    refine Ev.step (f := fun _ => some (bits, out ++ l.drop i)) (fun k => ?_) (Ev.now _)
    rw [dynamometerref9_more.l0, if_neg (by omega), if_pos rfl, List.drop_of_length_le (by omega), List.append_nil]
  | succ d ih =>
    intro i out hi ho
    have hd : l.drop i = rd_T44 l (i : Int) :: l.drop (i + 1) := by rw [rd44 (by omega)]; exact List.drop_eq_getElem_cons (by omega)
    have h := ih (i + 1) (out ++ [rd_T44 l (i : Int)]) (by omega) (by rw [List.length_append]; simp; omega)
    rw [hd]
    rw [List.append_assoc, List.singleton_append] at h
    refine Ev.step (f := fun k => dynamometerref9_more.j1 k x n true (i : Int) false bits l bits out (rd_T44 l (i : Int)).f0 (rd_T44 l (i : Int)).f1) (fun k => ?_) (Ev.step (fun k => ?_) h)
    · rw [dynamometerref9_more.l0, if_pos (by omega), if_pos (by omega), if_pos rfl]
    · rw [dynamometerref9_more.j1, if_neg (by decide), if_pos (by omega), add1N i (by omega)]
theorem more_loop (x n bits : Int) (l : List S44) (hl : l.length ≤ 1000000) (hw : ∀ s ∈ l, -9223372036854775808 ≤ s.f1 + n ∧ s.f1 + n < 9223372036854775808) : ∀ (d i : Nat) (out : List S44), i + d = l.length → out.length ≤ i →
    Ev (fun k => dynamometerref9_more.l0 k x n false (i : Int) bits l bits out) (bits, out ++ moreL x n (l.drop i)) := by
  intro d
  induction d with
  | zero =>
    intro i out hi ho
    rw [List.drop_of_length_le (by omega), moreL]
    refine Ev.step (f := fun _ => some (bits, out ++ [(⟨x, n⟩ : S44)])) (fun k => ?_) (Ev.now _)
    rw [dynamometerref9_more.l0, if_neg (by omega), if_neg (by decide), if_pos (by omega)]
  | succ d ih =>
    intro i out hi ho
    have hil : i < l.length := by omega
    have hd : l.drop i = rd_T44 l (i : Int) :: l.drop (i + 1) := by rw [rd44 (by omega)]; exact List.drop_eq_getElem_cons (by omega)
    obtain ⟨w1, w2⟩ := hw _ (rd44_mem hil)
    have ew : wrap64 ((rd_T44 l (i : Int)).f1 + n) = (rd_T44 l (i : Int)).f1 + n := w64 w1 w2
    have es := add1N i (by omega)
    rw [hd, moreL]
    by_cases hx : (rd_T44 l (i : Int)).f0 ≥ x
    · rw [if_pos hx]
      by_cases he : (rd_T44 l (i : Int)).f0 = x
      · rw [if_pos he]
        have h := more_done x n bits l hl d (i + 1) (out ++ [(⟨(rd_T44 l (i : Int)).f0, (rd_T44 l (i : Int)).f1 + n⟩ : S44)]) (by omega) (by rw [List.length_append]; simp; omega)
        rw [List.append_assoc, List.singleton_append] at h
        refine Ev.step (f := fun k => dynamometerref9_more.j1 k x n false (i : Int) true bits l bits out (rd_T44 l (i : Int)).f0 (rd_T44 l (i : Int)).f1) (fun k => ?_) (Ev.step (fun k => ?_) h)
        · rw [dynamometerref9_more.l0, if_pos (by omega), if_pos (by omega), if_neg (by decide), decide_eq_true hx]
        · rw [dynamometerref9_more.j1, if_pos rfl, if_pos he, if_pos (by omega), es, ew]
      · rw [if_neg he]
        have h := more_done x n bits l hl d (i + 1) (out ++ [(⟨x, n⟩ : S44)] ++ [rd_T44 l (i : Int)]) (by omega) (by rw [List.length_append, List.length_append]; simp; omega)
        have e2 : out ++ [(⟨x, n⟩ : S44)] ++ [rd_T44 l (i : Int)] ++ l.drop (i + 1) = out ++ (⟨x, n⟩ : S44) :: rd_T44 l (i : Int) :: l.drop (i + 1) := by simp
        rw [e2] at h
        refine Ev.step (f := fun k => dynamometerref9_more.j1 k x n false (i : Int) true bits l bits out (rd_T44 l (i : Int)).f0 (rd_T44 l (i : Int)).f1) (fun k => ?_) (Ev.step (fun k => ?_) h)
        · rw [dynamometerref9_more.l0, if_pos (by omega), if_pos (by omega), if_neg (by decide), decide_eq_true hx]
        · rw [dynamometerref9_more.j1, if_pos rfl, if_neg he, if_pos (by omega), Option.bind_some, if_pos (by rw [List.length_append]; simp; omega), es]
    · rw [if_neg hx]
      have h := ih (i + 1) (out ++ [rd_T44 l (i : Int)]) (by omega) (by rw [List.length_append]; simp; omega)
      rw [List.append_assoc, List.singleton_append] at h
      refine Ev.step (f := fun k => dynamometerref9_more.j1 k x n false (i : Int) false bits l bits out (rd_T44 l (i : Int)).f0 (rd_T44 l (i : Int)).f1) (fun k => ?_) (Ev.step (fun k => ?_) h)
      · rw [dynamometerref9_more.l0, if_pos (by omega), if_pos (by omega), if_neg (by decide), decide_eq_false hx]
      · rw [dynamometerref9_more.j1, if_neg (by decide), if_pos (by omega), es]
/-- More of a bucket, by the reference. -/
theorem more_ev (x n bits : Int) (l : List S44) (hl : l.length ≤ 1000000) (hw : ∀ s ∈ l, -9223372036854775808 ≤ s.f1 + n ∧ s.f1 + n < 9223372036854775808) : Ev (fun k => dynamometerref9_more.f k bits l x n) (bits, moreF x n l) := by
  unfold moreF
  by_cases h0 : n = 0
  · have h := more_done x n bits l hl l.length 0 [] (by omega) (by simp)
    rw [if_pos h0]
    refine Ev.congr (fun k => ?_) h
    unfold dynamometerref9_more.f
    rw [h0]
    rfl
  · have h := more_loop x n bits l hl hw l.length 0 [] (by omega) (by simp)
    rw [if_neg h0]
    refine Ev.congr (fun k => ?_) h
    unfold dynamometerref9_more.f
    rw [beq_eq_false_iff_ne.2 h0]
    rfl
end Go.Proofs.YtlkameeaaplonaaDoor

/- The bucket of a value, by the reference. -/
namespace Go.Proofs.YtlkameeaaplonaaDoor.QMeasureOfMatchesSpec
open Go.RowKit Go.Proofs.YtlkameeaaplonaaDoorW.PrintWords Go.Proofs.YtlkameeaaplonaaDoorW.PrintLast Go.Proofs.YtlkameeaaplonaaDoorW.PrintMore
set_option linter.unusedVariables false
set_option linter.unusedSimpArgs false
section
variable {b p J : Nat} (P : Par b p J)
include P
theorem place_end (k : Nat) (v j s : Nat) (hs : s = 2 ^ (j + 1)) (h1 : p * s ≤ v) (h2 : v < 2 * p * s) (hv : v < 1125899906842624) (hj : j < 50) :
    dynamometerref9_place.l0 (k + 1) (b : Int) (v : Int) (s : Int) ((p * s : Nat) : Int) (((j + 2) * p : Nat) : Int) (p : Int) = some (((j + 1) * p + v / s : Nat) : Int) := by
  have hp := P.p128
  have hp2 := P.p2
  have hs0 : 0 < s := by rw [hs]; exact Nat.pow_pos (by decide)
  have hm2 : v / s < 2 * p := (Nat.div_lt_iff_lt_mul hs0).2 h2
  have hm1 : p ≤ v / s := (Nat.le_div_iff_mul_le hs0).2 h1
  have hjp : (j + 2) * p ≤ 6656 := Nat.le_trans (Nat.mul_le_mul (show j + 2 ≤ 52 by omega) hp) (by decide)
  have ed : (v - p * s) / s = v / s - p := by
    rw [Nat.mul_comm p s, Nat.sub_mul_div]
  have e2 : 2 * p * s = p * s + p * s := by rw [Nat.mul_assoc]; omega
  have e3 : (j + 2) * p = j * p + p + p := by rw [Nat.succ_mul, Nat.succ_mul]
  have e4 : (j + 1) * p = j * p + p := Nat.succ_mul j p
  rw [dynamometerref9_place.l0, mulN p s (by omega), addN (p * s) (p * s) (by omega), if_neg (by omega), if_neg (by omega), subN v (p * s) h1 (by omega)]
  have et : Int.tdiv ((v - p * s : Nat) : Int) (s : Int) = ((v / s - p : Nat) : Int) := by
    rw [← ed]
    rw [Int.tdiv_eq_ediv_of_nonneg (by omega)]
    exact (Int.natCast_ediv _ _).symm
  rw [et]
  generalize v / s = m at hm1 hm2
  rw [w64 (n := ((m - p : Nat) : Int)) (by omega) (by omega), addN _ _ (by omega)]
  congr 2
  omega
theorem place_loop (v j : Nat) (h1 : p * 2 ^ (j + 1) ≤ v) (h2 : v < 2 * p * 2 ^ (j + 1)) (hv : v < 1125899906842624) (hj : j < 50) : ∀ (d i k : Nat), i + d = j →
    dynamometerref9_place.l0 (d + k + 1) (b : Int) (v : Int) ((2 ^ (i + 1) : Nat) : Int) ((p * 2 ^ (i + 1) : Nat) : Int) (((i + 2) * p : Nat) : Int) (p : Int) = some (((j + 1) * p + v / 2 ^ (j + 1) : Nat) : Int)
  | 0, i, k, e => by
    have e' : i = j := by omega
    subst e'
    rw [Nat.zero_add]
    exact place_end P k v i _ rfl h1 h2 hv hj
  | d + 1, i, k, e => by
    have hp := P.p128
    have hp2 := P.p2
    have ih := place_loop v j h1 h2 hv hj d (i + 1) k (by omega)
    have hle : p * 2 ^ (i + 2) ≤ v := Nat.le_trans (Nat.mul_le_mul_left p (Nat.pow_le_pow_right (by decide) (by omega))) h1
    have es : 2 ^ (i + 2) = 2 * 2 ^ (i + 1) := by rw [Nat.pow_succ 2 (i + 1)]; omega
    have es2 : 2 ^ (i + 1 + 1) = 2 * 2 ^ (i + 1) := es
    have hip : (i + 2) * p ≤ 6656 := Nat.le_trans (Nat.mul_le_mul (show i + 2 ≤ 52 by omega) hp) (by decide)
    have e3 : (i + 3) * p = (i + 2) * p + p := Nat.succ_mul _ _
    have e3' : (i + 1 + 2) * p = (i + 2) * p + p := e3
    rw [es2, e3'] at ih
    rw [es] at hle
    generalize hsg : 2 ^ (i + 1) = s at hle ih ⊢
    have hs1 : s ≤ p * s := Nat.le_mul_of_pos_left s (by omega)
    have e2 : p * (2 * s) = p * s + p * s := by rw [Nat.mul_left_comm]; omega
    rw [e2] at hle ih
    rw [show d + 1 + k + 1 = (d + k + 1) + 1 from by omega, dynamometerref9_place.l0, mulN p s (by omega), addN (p * s) (p * s) (by omega), if_pos (by omega), bm1 P, if_pos (by omega), dblN s (by omega), addN _ _ (by omega), sp P]
    exact ih
theorem place_lo (v k : Nat) (hv : v < 2 * p) : dynamometerref9_place.f (k + 1) (b : Int) (v : Int) = some (v : Int) := by
  have hp := P.p128
  unfold dynamometerref9_place.f
  rw [if_pos (by omega), sb P, dynamometerref9_place.l0]
  have e1 : wrap64 (((2 * p : Nat) : Int) * 1) = ((2 * p : Nat) : Int) := by rw [Int.mul_one]; exact w64 (by omega) (by omega)
  have e2 : wrap64 (0 + ((2 * p : Nat) : Int)) = ((2 * p : Nat) : Int) := by rw [Int.zero_add]; exact w64 (by omega) (by omega)
  have e3 : wrap64 ((v : Int) - 0) = (v : Int) := by rw [Int.sub_zero]; exact w64 (by omega) (by omega)
  have e4 : wrap64 (v : Int) = (v : Int) := w64 (by omega) (by omega)
  rw [e1, e2, if_neg (by omega), if_neg (by decide), e3, Int.tdiv_one, e4, Int.zero_add, e4]
theorem place_hi (v j k : Nat) (h1 : p * 2 ^ (j + 1) ≤ v) (h2 : v < 2 * p * 2 ^ (j + 1)) (hv : v < 1125899906842624) :
    dynamometerref9_place.f (j + k + 2) (b : Int) (v : Int) = some (((j + 1) * p + v / 2 ^ (j + 1) : Nat) : Int) := by
  obtain ⟨hj, hm1, hm2⟩ := dbl_facts P h1 h2 hv
  have hp := P.p128
  have hpos : 2 * p ≤ v := by
    have : p * 2 ≤ p * 2 ^ (j + 1) := Nat.mul_le_mul_left p (by rw [Nat.pow_succ]; have := Nat.pow_pos (n := j) (show 0 < 2 by decide); omega)
    omega
  have h := place_loop P v j h1 h2 hv hj j 0 k (by omega)
  unfold dynamometerref9_place.f
  have e1 : wrap64 (((2 * p : Nat) : Int) * 1) = ((2 * p : Nat) : Int) := by rw [Int.mul_one]; exact w64 (by omega) (by omega)
  have e2 : wrap64 (0 + ((2 * p : Nat) : Int)) = ((2 * p : Nat) : Int) := by rw [Int.zero_add]; exact w64 (by omega) (by omega)
  rw [if_pos (by omega), sb P, dynamometerref9_place.l0, e1, e2, if_pos (by omega), bm1 P, if_pos (by omega), sp P]
  have e5 : wrap64 (2 * 1) = ((2 ^ (0 + 1) : Nat) : Int) := (w64 (n := 2 * 1) (by omega) (by omega)).trans (by decide)
  have e6 : ((2 * p : Nat) : Int) = ((p * 2 ^ (0 + 1) : Nat) : Int) := by rw [show p * 2 ^ (0 + 1) = 2 * p from by omega]
  have e7 : ((2 * p : Nat) : Int) = (((0 + 2) * p : Nat) : Int) := by rw [Nat.zero_add]
  rw [e5]
  have h' := h
  rw [← e6, ← e7] at h'
  exact h'
end
end Go.Proofs.YtlkameeaaplonaaDoor.QMeasureOfMatchesSpec
