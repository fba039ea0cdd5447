/- The texts of the claim, part 4: each says in its own first line what is proved and its conditions. -/
import Derived.Deep.RegionHeld3
import Derived.Test.YtlkameeaaplonaaDoorZC1
import Derived.Test.YtlkameeaaplonaaDoorZC2
import Derived.Test.YtlkameeaaplonaaDoorZC3
/- Check, by measure and by its reference: the same for all histograms. Condition: the buckets are in 64 bits. -/
namespace Go.Proofs.YtlkameeaaplonaaDoor
open Go.RowKit Go.Proofs.YtlkameeaaplonaaDoor.QMeasureCoarseMatchesSpec Go.Proofs.YtlkameeaaplonaaDoorW.PrintWords Go.Proofs.YtlkameeaaplonaaDoorW.PrintLast Go.Proofs.YtlkameeaaplonaaDoorW.PrintMore
set_option linter.unusedVariables false
set_option linter.unusedSimpArgs false
theorem rform (x : Int) : dynamometerref9_fineBits.f x = some (decide (2 ≤ x ∧ x ≤ 8)) := by
  unfold dynamometerref9_fineBits.f
  by_cases h : 2 ≤ x
  · rw [if_pos h]; simp [h]
  · rw [if_neg h]; simp [h]
theorem mn_step (T y : Int) (h0 : 0 ≤ T) (h1 : 1 ≤ y) (h2 : T + y < 9223372036854775808) : mn (wrap64 (mn T 1125899906842625 + y)) 1125899906842625 = mn (T + y) 1125899906842625 := by
  have e : wrap64 (mn T 1125899906842625 + y) = mn T 1125899906842625 + y := w64 (by unfold mn; split <;> omega) (by unfold mn; split <;> omega)
  rw [e]
  unfold mn
  repeat' split
  all_goals omega
theorem mn_gt {T : Int} (h : T > 1125899906842624) : mn T 1125899906842625 > 1125899906842624 := by unfold mn; split <;> omega
theorem mn_le {T : Int} (h : ¬ T > 1125899906842624) : ¬ mn T 1125899906842625 > 1125899906842624 := by unfold mn; split <;> omega
theorem sum_ok {T y : Int} {i : Nat} (h0 : 0 ≤ T) (h1 : T ≤ (i : Int) * 1125899906842624) (hi : i ≤ 6655) (h2 : 1 ≤ y) (h3 : ¬ y > 1125899906842624) : T + y < 9223372036854775808 ∧ wrap64 (T + y) = T + y := by
  have : T + y < 9223372036854775808 := by omega
  exact ⟨this, w64 (by omega) this⟩
section
variable {b : Nat} (h2 : 2 ≤ b) (h8 : b ≤ 8)
include h2 h8
theorem low_ev (x : Int) (hx : x ≤ 9223372036854775807) : ∃ t : Int, Ev (fun k => dynamometerref9_low.f k (b : Int) x) t ∧ (t < 0 ↔ ¬ (0 ≤ x ∧ x ≤ (top b : Int))) := by
  have P := par_of b h2 h8
  rcases Int.lt_or_le x 0 with h0 | h0
  · refine ⟨-1, ⟨0, fun k _ => ?_⟩, by omega⟩
    show dynamometerref9_low.f k (b : Int) x = _
    unfold dynamometerref9_low.f
    rw [if_pos h0]
  · obtain ⟨n, rfl⟩ := Int.eq_ofNat_of_zero_le h0
    by_cases hn : n < 2 * 2 ^ (b - 1)
    · refine ⟨(n : Int), ⟨1, fun k hk => ?_⟩, ?_⟩
      · obtain ⟨k, rfl⟩ : ∃ m, k = m + 1 := ⟨k - 1, by omega⟩
        exact low_lo P n k hn
      · have : n ≤ top b := lo_valid hn
        omega
    · obtain ⟨j, t, ht, hn'⟩ := decomp P n (by omega)
      have hv := valid_iff P (j := j) ht
      rw [← hn'] at hv
      have hl := fun k (hk : 50 - b ≤ k) => low_hi P j t k ht (by rw [← hn']; omega) hk
      rw [← hn'] at hl
      clear hn' hn
      replace hv : n ≤ top b ↔ j + 1 ≤ 50 - b := hv
      refine ⟨lowv (50 - b) j (2 ^ (b - 1) + t), ⟨50, fun k hk => ?_⟩, ?_⟩
      · obtain ⟨k, rfl⟩ : ∃ m, k = m + 1 := ⟨k - 1, by omega⟩
        exact hl k (by omega)
      · clear hl
        by_cases hj : j + 1 ≤ 50 - b
        · have h1 := hv.2 hj
          rw [lowv_pos hj]
          generalize (2 ^ (b - 1) + t) * 2 ^ (j + 1) = z
          generalize top b = T at h1
          omega
        · have h1 : ¬ n ≤ top b := fun h => hj (hv.1 h)
          rw [lowv_neg hj]
          generalize top b = T at h1
          omega
theorem chk_ev (l : List S44) (hwf : ∀ s ∈ l, s.f0 ≤ 9223372036854775807) : ∀ d i : Nat, i + d = l.length → Pre b l i → ∃ e : Int, Ev (fun k => measure_Check.l0 k (tot (l.take i)) l (l.length : Int) (i : Int) (b : Int) l) e ∧
    Ev (fun k => dynamometerref9_Check.l0 k (mn (tot (l.take i)) 1125899906842625) (i : Int) (b : Int) l) e ∧ (0 ≤ e ∧ e ≤ 20) ∧ (e = 0 ↔ Pre b l l.length ∧ tot l ≤ 1125899906842624) := by
  have ht := top_le b h2 h8
  intro d
  induction d with
  | zero =>
    intro i hi hp
    have e1 : i = l.length := by omega
    subst e1
    rw [List.take_length]
    have hs := hp.sum
    rw [List.take_length] at hs
    by_cases hT : tot l > 1125899906842624
    · refine ⟨3, Ev.step (f := fun _ => some 3) (fun k => ?_) (Ev.now _), Ev.step (f := fun _ => some 3) (fun k => ?_) (Ev.now _), by decide, by omega⟩
      · rw [measure_Check.l0, if_neg (by omega), if_pos hT]
      · rw [dynamometerref9_Check.l0, if_neg (by omega), if_pos (mn_gt hT)]
    · refine ⟨0, Ev.step (f := fun _ => some 0) (fun k => ?_) (Ev.now _), Ev.step (f := fun _ => some 0) (fun k => ?_) (Ev.now _), by decide, ?_⟩
      · rw [measure_Check.l0, if_neg (by omega), if_neg hT]
      · rw [dynamometerref9_Check.l0, if_neg (by omega), if_neg (mn_le hT)]
      · exact ⟨fun _ => ⟨hp, by omega⟩, fun _ => rfl⟩
  | succ d ih =>
    intro i hi hp
    have hil : i < l.length := by omega
    have hin := rd44_mem hil
    have hi9 : i ≤ 6656 := by
      by_cases h0 : i = 0
      · omega
      · obtain ⟨a, _, h3, h4⟩ := hp.place (i - 1) (by omega)
        omega
    have hfe := form_ev h2 h8 (rd_T44 l (i : Int)).f0
    obtain ⟨t, hle0, htn⟩ := low_ev h2 h8 (rd_T44 l (i : Int)).f0 (hwf _ hin)
    by_cases hv : 0 ≤ (rd_T44 l (i : Int)).f0 ∧ (rd_T44 l (i : Int)).f0 ≤ (top b : Int)
    · obtain ⟨a, ha⟩ := Int.eq_ofNat_of_zero_le hv.1
      have hat : a ≤ top b := by omega
      rw [decide_eq_true hv] at hfe
      have ht0 : ¬ t < 0 := fun h => (htn.1 h) hv
      -- what both do behind the order's test
      have hj : ∀ q : Bool, q = decide (¬ (i = 0 ∨ (rd_T44 l ((i - 1 : Nat) : Int)).f0 < (a : Int))) → ∃ e : Int, Ev (fun k => measure_Check.j1 k (tot (l.take i)) l (l.length : Int) (i : Int) q (b : Int) l (rd_T44 l (i : Int)).f0 (rd_T44 l (i : Int)).f1) e ∧
          Ev (fun k => dynamometerref9_Check.j1 k (mn (tot (l.take i)) 1125899906842625) (i : Int) q (b : Int) l (rd_T44 l (i : Int)).f0 (rd_T44 l (i : Int)).f1) e ∧ (0 ≤ e ∧ e ≤ 20) ∧ (e = 0 ↔ Pre b l l.length ∧ tot l ≤ 1125899906842624) := by
        intro q hq
        by_cases hr : i = 0 ∨ (rd_T44 l ((i - 1 : Nat) : Int)).f0 < (a : Int)
        · rw [decide_eq_false (fun h => h hr)] at hq
          subst hq
          by_cases h1 : (rd_T44 l (i : Int)).f1 < 1
          · refine ⟨9, Ev.step (f := fun _ => some 9) (fun k => ?_) (Ev.now _), Ev.step (f := fun _ => some 9) (fun k => ?_) (Ev.now _), by decide, fun h => absurd h (by decide), fun h => ?_⟩
            · rw [measure_Check.j1, if_neg (by decide), if_pos h1]
            · rw [dynamometerref9_Check.j1, if_neg (by decide), if_pos h1]
            · have := h.1.pos i hil
              omega
          · by_cases h3 : (rd_T44 l (i : Int)).f1 > 1125899906842624
            · refine ⟨9, Ev.step (f := fun _ => some 9) (fun k => ?_) (Ev.now _), Ev.step (f := fun _ => some 9) (fun k => ?_) (Ev.now _), by decide, fun h => absurd h (by decide), fun h => ?_⟩
              · rw [measure_Check.j1, if_neg (by decide), if_neg h1, if_pos h3]
              · rw [dynamometerref9_Check.j1, if_neg (by decide), if_neg h1, if_pos h3]
              · have := h.1.pos i hil
                omega
            · have hps := pre_succ hp hil ha hat hr (by omega) (by omega)
              obtain ⟨e, hm, hrf, he⟩ := ih (i + 1) (by omega) hps
              obtain ⟨a', ea, _, hia⟩ := hps.place i (by omega)
              have hs := hp.sum
              have hs' := hps.sum
              have hi6 : i ≤ 6655 := by omega
              rw [tot_succ hil] at hm hrf hs'
              obtain ⟨s1, s2⟩ := sum_ok hs.1 hs.2 hi6 (by omega) h3
              have ew : wrap64 ((i : Int) + 1) = ((i + 1 : Nat) : Int) := add1N i (by omega)
              refine ⟨e, Ev.step (fun k => ?_) hm, Ev.step (fun k => ?_) hrf, he⟩
              · rw [measure_Check.j1, if_neg (by decide), if_neg h1, if_neg h3, s2, ew]
              · rw [dynamometerref9_Check.j1, if_neg (by decide), if_neg h1, if_neg h3, mn_step _ _ hs.1 (by omega) s1, ew]
        · rw [decide_eq_true hr] at hq
          subst hq
          refine ⟨10, Ev.step (f := fun _ => some 10) (fun k => ?_) (Ev.now _), Ev.step (f := fun _ => some 10) (fun k => ?_) (Ev.now _), by decide, fun h => absurd h (by decide), fun h => ?_⟩
          · rw [measure_Check.j1, if_pos rfl]
          · rw [dynamometerref9_Check.j1, if_pos rfl]
          · exfalso
            apply hr
            by_cases h0 : i = 0
            · exact .inl h0
            · right
              have := h.1.rising (i - 1) i (by omega) hil
              omega
      have HT := Aside0.mk ht0
      obtain ⟨q, hq⟩ : ∃ q, q = decide (¬ (i = 0 ∨ (rd_T44 l ((i - 1 : Nat) : Int)).f0 < (a : Int))) := ⟨_, rfl⟩
      obtain ⟨e, hm, hrf, he⟩ := hj q hq
      clear hj ih htn hat hv
      refine ⟨e, Ev.step (f := fun k => (measure_bucketForm.f k (b : Int) (rd_T44 l (i : Int)).f0).bind fun t => if t = true then measure_Check.j1 k (tot (l.take i)) l (l.length : Int) (i : Int) q (b : Int) l (rd_T44 l (i : Int)).f0 (rd_T44 l (i : Int)).f1 else some 9) (fun k => ?_) (Ev.bind hfe (Ev.congr (fun k => if_pos rfl) hm)),
        Ev.step (f := fun k => (dynamometerref9_low.f k (b : Int) (rd_T44 l (i : Int)).f0).bind fun t => if t < 0 then some 9 else dynamometerref9_Check.j1 k (mn (tot (l.take i)) 1125899906842625) (i : Int) q (b : Int) l (rd_T44 l (i : Int)).f0 (rd_T44 l (i : Int)).f1) (fun k => ?_) (Ev.bind hle0 (Ev.congr (fun k => if_neg ht0) hrf)), he⟩
      · rw [measure_Check.l0, if_pos (by omega), if_pos (by omega), if_pos (by omega)]
        congr 1
        funext t
        cases t
        · rfl
        · rw [if_pos rfl, if_pos rfl]
          by_cases h0 : i = 0
          · rw [if_neg (by omega), hq, decide_eq_false (by simp [h0])]
          · have ew : wrap64 ((i : Int) - 1) = ((i - 1 : Nat) : Int) := sub1N i (by omega) (by omega)
            rw [if_pos (by omega), ew, if_pos (by omega), if_pos (by omega), hq, decide_eq_decide.2 (show _ ↔ ¬ (i = 0 ∨ (rd_T44 l ((i - 1 : Nat) : Int)).f0 < (a : Int)) by rw [ha]; omega)]
      · rw [dynamometerref9_Check.l0, if_pos (by omega), if_pos (by omega)]
        congr 1
        funext t
        by_cases hn : t < 0
        · rw [if_pos hn, if_pos hn]
        · rw [if_neg hn, if_neg hn]
          by_cases h0 : i = 0
          · rw [if_neg (by omega), hq, decide_eq_false (by simp [h0])]
          · have ew : wrap64 ((i : Int) - 1) = ((i - 1 : Nat) : Int) := sub1N i (by omega) (by omega)
            rw [if_pos (by omega), ew, if_pos (by omega), if_pos (by omega), hq, decide_eq_decide.2 (show _ ↔ ¬ (i = 0 ∨ (rd_T44 l ((i - 1 : Nat) : Int)).f0 < (a : Int)) by rw [ha]; omega)]
    · rw [decide_eq_false hv] at hfe
      have ht0 : t < 0 := htn.2 hv
      refine ⟨9, ?_, ?_, by decide, fun h => absurd h (by decide), fun h => ?_⟩
      · obtain ⟨K, hK⟩ := hfe
        refine ⟨K + 1, fun k hk => ?_⟩
        obtain ⟨k, rfl⟩ : ∃ m, k = m + 1 := ⟨k - 1, by omega⟩
        have hK' : measure_bucketForm.f k (b : Int) (rd_T44 l (i : Int)).f0 = some false := hK k (by omega)
        show measure_Check.l0 (k + 1) (tot (l.take i)) l (l.length : Int) (i : Int) (b : Int) l = _
        rw [measure_Check.l0, if_pos (by omega), if_pos (by omega), if_pos (by omega), hK']
        rfl
      · obtain ⟨K, hK⟩ := hle0
        refine ⟨K + 1, fun k hk => ?_⟩
        obtain ⟨k, rfl⟩ : ∃ m, k = m + 1 := ⟨k - 1, by omega⟩
        have hK' : dynamometerref9_low.f k (b : Int) (rd_T44 l (i : Int)).f0 = some t := hK k (by omega)
        show dynamometerref9_Check.l0 (k + 1) (mn (tot (l.take i)) 1125899906842625) (i : Int) (b : Int) l = _
        rw [dynamometerref9_Check.l0, if_pos (by omega), if_pos (by omega), hK', Option.bind_some, if_pos ht0]
      · obtain ⟨a, h1, h2, _⟩ := h.1.place i hil
        omega
/-- Check of the number of bits b: what both find, and that nothing is found of a valid histogram alone. -/
theorem chk_bits (l : List S44) (hwf : ∀ s ∈ l, s.f0 ≤ 9223372036854775807) : ∃ e : Int, Ev (fun k => measure_Check.f k (b : Int) l) e ∧ Ev (fun k => dynamometerref9_Check.f k (b : Int) l) e ∧ (0 ≤ e ∧ e ≤ 20) ∧ (e = 0 ↔ Valid b l) := by
  obtain ⟨e, h3, h4, h5, h6⟩ := chk_ev h2 h8 l hwf l.length 0 (by omega) (pre_zero b l)
  rw [List.take_zero] at h3 h4
  refine ⟨e, Ev.congr (fun k => ?_) h3, Ev.congr (fun k => ?_) h4, h5, h6.trans (pre_valid h2 h8)⟩
  · unfold measure_Check.f
    rw [mform, decide_eq_true (by omega), Option.bind_some, if_pos rfl]
    rfl
  · unfold dynamometerref9_Check.f
    rw [rform, decide_eq_true (by omega), Option.bind_some, if_pos rfl]
    rfl
end
/-- Check, for all histograms. -/
theorem chk_all (bits : Int) (l : List S44) (hwf : ∀ s ∈ l, s.f0 ≤ 9223372036854775807) : ∃ e : Int, Ev (fun k => measure_Check.f k bits l) e ∧ Ev (fun k => dynamometerref9_Check.f k bits l) e ∧ (0 ≤ e ∧ e ≤ 20) ∧ (e = 0 ↔ ∃ b : Nat, bits = (b : Int) ∧ Valid b l) := by
  by_cases h : 2 ≤ bits ∧ bits ≤ 8
  · obtain ⟨b, rfl⟩ := Int.eq_ofNat_of_zero_le (show 0 ≤ bits by omega)
    obtain ⟨e, h3, h4, h5, h6⟩ := chk_bits (b := b) (by omega) (by omega) l hwf
    refine ⟨e, h3, h4, h5, fun h => ⟨b, rfl, h6.1 h⟩, fun ⟨b', e', hv⟩ => h6.2 ?_⟩
    obtain rfl : b = b' := by omega
    exact hv
  · refine ⟨9, Ev.congr (f := fun _ => some 9) (fun k => ?_) (Ev.now _), Ev.congr (f := fun _ => some 9) (fun k => ?_) (Ev.now _), by decide, fun h => absurd h (by decide), fun ⟨b, e, hv⟩ => ?_⟩
    · unfold measure_Check.f
      rw [mform, decide_eq_false h]
      rfl
    · unfold dynamometerref9_Check.f
      rw [rform, decide_eq_false h]
      rfl
    · have := hv.b2
      have := hv.b8
      omega
end Go.Proofs.YtlkameeaaplonaaDoor

/- The limits of a bucket, by measure. -/
namespace Go.Proofs.YtlkameeaaplonaaDoor.QMeasureCoarseMatchesSpec
open Go.RowKit Go.Proofs.YtlkameeaaplonaaDoorW.PrintWords Go.Proofs.YtlkameeaaplonaaDoorW.PrintLast Go.Proofs.YtlkameeaaplonaaDoorW.PrintMore
set_option linter.unusedVariables false
set_option linter.unusedSimpArgs false
section
variable {b p J : Nat} (P : Par b p J)
include P
/-- The limits of a bucket that is one. -/
theorem limits_lo (n : Nat) (hn : n < 2 * p) : measure_limits.f (b : Int) (n : Int) = some ((n : Int), (n : Int)) := by
  unfold measure_limits.f
  rw [if_pos (by omega), sb P, if_pos (by omega)]
theorem limits_hi (j t : Nat) (ht : t < p) (hj : j + 1 ≤ J) :
    measure_limits.f (b : Int) (((j + 1) * p + (p + t) : Nat) : Int) = some ((((p + t) * 2 ^ (j + 1) : Nat) : Int), (((p + t + 1) * 2 ^ (j + 1) - 1 : Nat) : Int)) := by
  have hp := P.p128
  have hp2 := P.p2
  have hJ := P.hJ
  have hb := P.b8
  have hb2 := P.b2
  have h1 := pw_le P hj
  have e0 : (j + 1) * p = j * p + p := Nat.succ_mul j p
  have hjp : j * p ≤ 6400 := Nat.le_trans (Nat.mul_le_mul (show j ≤ 50 by omega) hp) (by decide)
  have ediv : (j * p + t) / 2 ^ (b - 1) = j := by
    rw [← P.hp, Nat.mul_comm j p, Nat.mul_add_div (by omega), Nat.div_eq_of_lt ht]
    omega
  have emod : (j * p + t) % 2 ^ (b - 1) = t := by
    rw [← P.hp, Nat.mul_comm j p, Nat.mul_add_mod, Nat.mod_eq_of_lt ht]
  have ea := andN (j * p + t) (b - 1) (by omega) (by omega)
  rw [emod, ← P.hp] at ea
  rw [e0]
  have hsub : j * p + p + (p + t) - 2 * p = j * p + t := by omega
  unfold measure_limits.f
  rw [if_pos (by omega), sb P, if_neg (by omega), bm1 P, if_pos (by omega), subN (j * p + p + (p + t)) (2 * p) (by omega) (by omega), hsub, shrN _ _ (by omega), ediv, add1N j (by omega), if_pos (by omega), sp P, sub1N p (by omega) (by omega), ea,
    addN t p (by omega), add1N (t + p) (by omega)]
  have hs1 : 0 < 2 ^ (j + 1) := Nat.pow_pos (by decide)
  have e1 : 2 * p * 2 ^ (j + 1) = p * 2 ^ (j + 1) + p * 2 ^ (j + 1) := by rw [Nat.mul_assoc]; omega
  have l1 : (t + p) * 2 ^ (j + 1) ≤ 2 * p * 2 ^ (j + 1) := Nat.mul_le_mul_right _ (by omega)
  have l2 : (t + p + 1) * 2 ^ (j + 1) ≤ 2 * p * 2 ^ (j + 1) := Nat.mul_le_mul_right _ (by omega)
  have l3 : 0 < (t + p + 1) * 2 ^ (j + 1) := Nat.mul_pos (by omega) hs1
  rw [shlN (t + p) (j + 1) (by omega) (by omega), shlN (t + p + 1) (j + 1) (by omega) (by omega), sub1N _ (by omega) (by omega), Nat.add_comm t p]
end
end Go.Proofs.YtlkameeaaplonaaDoor.QMeasureCoarseMatchesSpec

/- The greatest value of a bucket, by the reference. -/
namespace Go.Proofs.YtlkameeaaplonaaDoor.QMeasureCoarseMatchesSpec
open Go.RowKit Go.Proofs.YtlkameeaaplonaaDoorW.PrintWords Go.Proofs.YtlkameeaaplonaaDoorW.PrintLast Go.Proofs.YtlkameeaaplonaaDoorW.PrintMore
set_option linter.unusedVariables false
set_option linter.unusedSimpArgs false
section
variable {b p J : Nat} (P : Par b p J)
include P
theorem high_lo (n k : Nat) (hn : n < 2 * p) (hk : J ≤ k) : dynamometerref9_high.f (k + 1) (b : Int) (n : Int) = some (n : Int) := by
  have hp := P.p128
  have hp2 := P.p2
  have hJ := P.hJ
  have hb := P.b8
  unfold dynamometerref9_high.f
  rw [add1N n (by omega)]
  by_cases h : n + 1 < 2 * p
  · rw [low_lo P (n + 1) k h, Option.bind_some, if_pos (by omega), sub1N (n + 1) (by omega) (by omega)]
    rfl
  · have hl := low_hi P 0 0 k (by omega) (by omega) hk
    rw [lowv_pos (by omega), show (0 + 1) * p + (p + 0) = n + 1 from by omega, show (p + 0) * 2 ^ (0 + 1) = n + 1 from by omega] at hl
    rw [hl, Option.bind_some, if_pos (by omega), sub1N (n + 1) (by omega) (by omega)]
    rfl
theorem high_hi (j t k : Nat) (ht : t < p) (hj : j + 1 ≤ J) (hk : J ≤ k) :
    dynamometerref9_high.f (k + 1) (b : Int) (((j + 1) * p + (p + t) : Nat) : Int) = some (((p + t + 1) * 2 ^ (j + 1) - 1 : Nat) : Int) := by
  have hp := P.p128
  have hp2 := P.p2
  have hJ := P.hJ
  have hb := P.b8
  have hb2 := P.b2
  have h1 := pw_le P hj
  have hjp : (j + 1) * p ≤ 6656 := Nat.le_trans (Nat.mul_le_mul (show j + 1 ≤ 52 by omega) hp) (by decide)
  have hs1 : 0 < 2 ^ (j + 1) := Nat.pow_pos (by decide)
  have l2 : (p + t + 1) * 2 ^ (j + 1) ≤ 2 * p * 2 ^ (j + 1) := Nat.mul_le_mul_right _ (by omega)
  have l3 : 0 < (p + t + 1) * 2 ^ (j + 1) := Nat.mul_pos (by omega) hs1
  unfold dynamometerref9_high.f
  rw [add1N _ (by omega)]
  by_cases h : t + 1 < p
  · have hl := low_hi P j (t + 1) k h (by omega) hk
    rw [lowv_pos hj, show (j + 1) * p + (p + (t + 1)) = (j + 1) * p + (p + t) + 1 from by omega, show p + (t + 1) = p + t + 1 from by omega] at hl
    rw [hl, Option.bind_some, if_pos (by omega), sub1N _ (by omega) (by omega)]
  · have et : t + 1 = p := by omega
    have e0 : (j + 1 + 1) * p = (j + 1) * p + p := Nat.succ_mul _ p
    have hl := low_hi P (j + 1) 0 k (by omega) (by omega) hk
    rw [show (j + 1 + 1) * p + (p + 0) = (j + 1) * p + (p + t) + 1 from by omega] at hl
    rw [hl, Option.bind_some]
    have e2 : p + t + 1 = 2 * p := by omega
    rw [e2] at l3 ⊢
    by_cases hJ2 : j + 1 + 1 ≤ J
    · have e3 : (p + 0) * 2 ^ (j + 1 + 1) = 2 * p * 2 ^ (j + 1) := by rw [Nat.add_zero, Nat.pow_succ, Nat.mul_comm 2 p, Nat.mul_assoc, Nat.mul_comm (2 ^ (j + 1)) 2]
      rw [lowv_pos hJ2, e3, if_pos (by omega), sub1N _ (by omega) (by omega)]
    · have e3 : j + 1 = J := by omega
      rw [lowv_neg hJ2, if_neg (by decide), e3, P.pow]
      rfl
end
end Go.Proofs.YtlkameeaaplonaaDoor.QMeasureCoarseMatchesSpec

/- The coarse bucket of a bucket. Condition: the numbers of bits are right, the coarse one is not above the other. -/
namespace Go.Proofs.YtlkameeaaplonaaDoor
open Go.RowKit Go.Proofs.YtlkameeaaplonaaDoor.QMeasureCoarseMatchesSpec Go.Proofs.YtlkameeaaplonaaDoorW.PrintWords Go.Proofs.YtlkameeaaplonaaDoorW.PrintLast Go.Proofs.YtlkameeaaplonaaDoorW.PrintMore
set_option linter.unusedVariables false
/-- The coarse bucket of a bucket. -/
def cb (b c : Nat) (x : Int) : Int := bkt c ((measure_limits.f (b : Int) x).getD (0, 0)).1
theorem div_div_mul (v A B : Nat) (hA : 0 < A) : v / A * A / (A * B) = v / (A * B) := by
  rw [← Nat.div_div_eq_div_mul, Nat.mul_div_cancel _ hA, Nat.div_div_eq_div_mul]
theorem pow_part {b c : Nat} (h2 : 2 ≤ c) (hcb : c ≤ b) (j : Nat) : 2 ^ (c - 1) * 2 ^ (j + (b - c) + 1) = 2 ^ (b - 1) * 2 ^ (j + 1) ∧ 2 ^ (j + (b - c) + 1) = 2 ^ (j + 1) * 2 ^ (b - c) := by
  refine ⟨?_, ?_⟩
  · rw [← Nat.pow_add, ← Nat.pow_add]
    congr 1
    omega
  · rw [← Nat.pow_add]
    congr 1
    omega
section
variable {b c : Nat} (h2 : 2 ≤ c) (hcb : c ≤ b) (h8 : b ≤ 8)
include h2 hcb h8
/-- A value and the least one of its bucket have one coarse bucket. -/
theorem cb_bkt (v : Nat) (hv : v < 1125899906842624) : cb b c (bkt b (v : Int)) = bkt c (v : Int) := by
  have P := par_of b (by omega) h8
  have P' := par_of c h2 (by omega)
  rcases value_cases P v hv with h0 | ⟨j, h1, h3, hj⟩
  · unfold cb
    rw [bkt_lo P v h0, limits_lo P v h0]
    rfl
  · obtain ⟨hj50, hm1, hm2⟩ := dbl_facts P h1 h3 hv
    have ht : v / 2 ^ (j + 1) - 2 ^ (b - 1) < 2 ^ (b - 1) := by omega
    have e0 : 2 ^ (b - 1) + (v / 2 ^ (j + 1) - 2 ^ (b - 1)) = v / 2 ^ (j + 1) := by omega
    have hl := limits_hi P j (v / 2 ^ (j + 1) - 2 ^ (b - 1)) ht hj
    rw [e0] at hl
    obtain ⟨p1, p2⟩ := pow_part h2 hcb j
    have hA : 0 < 2 ^ (j + 1) := Nat.pow_pos (by decide)
    have hle : v / 2 ^ (j + 1) * 2 ^ (j + 1) ≤ v := Nat.div_mul_le_self _ _
    have hge : 2 ^ (b - 1) * 2 ^ (j + 1) ≤ v / 2 ^ (j + 1) * 2 ^ (j + 1) := Nat.mul_le_mul_right _ hm1
    have e2 : 2 * 2 ^ (c - 1) * 2 ^ (j + (b - c) + 1) = 2 * 2 ^ (b - 1) * 2 ^ (j + 1) := by rw [Nat.mul_assoc, p1, Nat.mul_assoc]
    have hu := bkt_hi P' (v / 2 ^ (j + 1) * 2 ^ (j + 1)) (j + (b - c)) (by rw [p1]; exact hge) (by rw [e2]; exact Nat.lt_of_le_of_lt hle h3) (Nat.lt_of_le_of_lt hle hv)
    have hw := bkt_hi P' v (j + (b - c)) (by rw [p1]; exact h1) (by rw [e2]; exact h3) hv
    unfold cb
    rw [bkt_hi P v j h1 h3 hv, hl]
    show bkt c ((v / 2 ^ (j + 1) * 2 ^ (j + 1) : Nat) : Int) = _
    rw [hu, hw, p2, div_div_mul _ _ _ hA]
/-- The limits of a bucket, by measure and by its reference. -/
theorem lim_ev (a : Nat) (ha : a ≤ top b) : ∃ lo hi : Int, measure_limits.f (b : Int) (a : Int) = some (lo, hi) ∧ Ev (fun k => dynamometerref9_high.f k (b : Int) (a : Int)) hi ∧ okV lo ∧ okV hi ∧ bkt c lo = cb b c (a : Int) ∧ bkt c hi = cb b c (a : Int) := by
  have P := par_of b (by omega) h8
  have hp2 := P.p2
  have hpow := P.pow
  have key : ∃ lo hi : Nat, measure_limits.f (b : Int) (a : Int) = some ((lo : Int), (hi : Int)) ∧ Ev (fun k => dynamometerref9_high.f k (b : Int) (a : Int)) (hi : Int) ∧ lo < 1125899906842624 ∧ hi < 1125899906842624 ∧ bkt b (hi : Int) = (a : Int) := by
    by_cases h0 : a < 2 * 2 ^ (b - 1)
    · have hp := P.p128
      refine ⟨a, a, limits_lo P a h0, ⟨51, fun k hk => ?_⟩, by omega, by omega, bkt_lo P a h0⟩
      obtain ⟨k, rfl⟩ : ∃ m, k = m + 1 := ⟨k - 1, by omega⟩
      exact high_lo P a k h0 (by have := P.hJ; omega)
    · obtain ⟨j, t, ht, e⟩ := decomp P a (by omega)
      have hv := valid_iff P (j := j) ht
      rw [← e] at hv
      have hj : j + 1 ≤ 50 - b := hv.1 ha
      have hA : 0 < 2 ^ (j + 1) := Nat.pow_pos (by decide)
      have l1 : (2 ^ (b - 1) + t + 1) * 2 ^ (j + 1) ≤ 2 * 2 ^ (b - 1) * 2 ^ (j + 1) := Nat.mul_le_mul_right _ (by omega)
      have l2 := pw_le P hj
      have l3 : (2 ^ (b - 1) + t + 1) * 2 ^ (j + 1) = (2 ^ (b - 1) + t) * 2 ^ (j + 1) + 2 ^ (j + 1) := Nat.succ_mul _ _
      have l4 : 2 ^ (b - 1) * 2 ^ (j + 1) ≤ (2 ^ (b - 1) + t) * 2 ^ (j + 1) := Nat.mul_le_mul_right _ (by omega)
      refine ⟨(2 ^ (b - 1) + t) * 2 ^ (j + 1), (2 ^ (b - 1) + t + 1) * 2 ^ (j + 1) - 1, by rw [e]; exact limits_hi P j t ht hj, ⟨51, fun k hk => ?_⟩, ?_, ?_, ?_⟩
      · obtain ⟨k, rfl⟩ : ∃ m, k = m + 1 := ⟨k - 1, by omega⟩
        rw [e]
        exact high_hi P j t k ht hj (by omega)
      · generalize (2 ^ (b - 1) + t) * 2 ^ (j + 1) = X at l3 l4 ⊢
        generalize (2 ^ (b - 1) + t + 1) * 2 ^ (j + 1) = Y at l1 l3
        generalize 2 * 2 ^ (b - 1) * 2 ^ (j + 1) = Z at l1 l2
        omega
      · generalize (2 ^ (b - 1) + t + 1) * 2 ^ (j + 1) = Y at l1 l3 ⊢
        generalize 2 * 2 ^ (b - 1) * 2 ^ (j + 1) = Z at l1 l2
        omega
      · have hdiv : ((2 ^ (b - 1) + t + 1) * 2 ^ (j + 1) - 1) / 2 ^ (j + 1) = 2 ^ (b - 1) + t := by
          rw [l3]
          rw [Nat.add_sub_assoc (by omega), Nat.mul_comm, Nat.mul_add_div hA, Nat.div_eq_of_lt (by omega)]
          rfl
        rw [bkt_hi P _ j (by omega) (by omega) (by omega), hdiv, ← e]
  obtain ⟨lo, hi, e1, e2, e3, e4, e5⟩ := key
  have hc0 : cb b c (a : Int) = bkt c (lo : Int) := by
    unfold cb
    rw [e1]
    rfl
  have hc1 : cb b c (a : Int) = bkt c (hi : Int) := by
    rw [← cb_bkt h2 hcb h8 hi e4, e5]
  exact ⟨lo, hi, e1, e2, ⟨by omega, by omega⟩, ⟨by omega, by omega⟩, hc0.symm, hc1.symm⟩
end
/-- The counts in coarse buckets. -/
def cl (b c : Nat) (l : List S44) : List S44 := l.map fun s => ⟨cb b c s.f0, s.f1⟩
theorem cl_take (b c : Nat) (l : List S44) (k : Nat) : cl b c (l.take k) = (cl b c l).take k := by unfold cl; rw [List.map_take]
theorem hs_cl (b c : Nat) (l : List S44) (k : Nat) (hk : k < l.length) (y : Int) : hs (cl b c (l.take (k + 1))) y = hs (cl b c (l.take k)) y + if cb b c (rd_T44 l (k : Int)).f0 = y then (rd_T44 l (k : Int)).f1 else 0 := by
  have htk : l.take (k + 1) = l.take k ++ [rd_T44 l (k : Int)] := by rw [List.take_succ_eq_append_getElem hk, rd44 hk]
  rw [htk]
  unfold cl
  rw [List.map_append, List.map_cons, List.map_nil, hs_snoc]
theorem tot_map (g : Int → Int) : ∀ l : List S44, tot (l.map fun s => ⟨g s.f0, s.f1⟩) = tot l
  | [] => rfl
  | s :: r => by
    rw [List.map_cons, tot, tot, tot_map g r]
end Go.Proofs.YtlkameeaaplonaaDoor

/- Coarse, walked. Conditions: as each theorem says. -/
namespace Go.Proofs.YtlkameeaaplonaaDoor
open Go.Shelf Go.RowKit Go.Maps Go.Proofs.YtlkameeaaplonaaDoor.QMeasureCoarseMatchesSpec
open Go.Proofs.YtlkameeaaplonaaDoorW.PrintWords Go.Proofs.YtlkameeaaplonaaDoorW.PrintLast Go.Proofs.YtlkameeaaplonaaDoorW.PrintMore
set_option linter.unusedVariables false
/-- The world at the entry: a box and the result. -/
structure In1 (w W0 : World) (b1 : Int) (A : Option Addr) (n c : Nat) : Prop where
  below : Below w.heap.size w W0
  size : W0.heap.size = w.heap.size + 2
  h0 : W0.heap[w.heap.size]? = some (hbx b1 A n c)
  h1 : W0.heap[w.heap.size + 1]? = some (hbx 0 none 0 0)
theorem in1 (w : World) (b1 : Int) (A : Option Addr) (n c : Nat) : In1 w ((w.alloc (.cells #[.int .i64 b1, .slice A n c] 25)).alloc (.cells #[.int .i64 0, .slice none 0 0] 25)) b1 A n c :=
  ⟨((Below.refl _ w).alloc (Nat.le_refl _) _).alloc (by simp) _, by simp,
    (Below.heap_alloc _ _ _ (by simp)).trans (heap_alloc_new w _),
    by have := heap_alloc_new (w.alloc (.cells #[.int .i64 b1, .slice A n c] 25)) (.cells #[.int .i64 0, .slice none 0 0] 25); simpa using this⟩
abbrev Cell2 (W : World) (g : Nat) (a : Int) (A : Option Addr) (n c : Nat) : Prop := W.cell? ⟨g, 0, none⟩ = some (.int .i64 a) ∧ W.cell? ⟨g, 1, none⟩ = some (.slice A n c)
theorem In1.fr {w W0 : World} {b1 : Int} {A : Option Addr} {n c : Nat} (h : In1 w W0 b1 A n c) {W : World} (hW : Below W0.heap.size W0 W) : Cell2 W w.heap.size b1 A n c :=
  bx_cells ((hW.block _ (by have := h.size; omega)).trans h.h0)
theorem In1.up {w W0 : World} {b1 : Int} {A : Option Addr} {n c : Nat} (h : In1 w W0 b1 A n c) {W : World} (hW : Below W0.heap.size W0 W) : Below w.heap.size w W := h.below.trans (Below.mono hW (by have := h.size; omega))
theorem In1.fin {w W0 : World} {b1 : Int} {A : Option Addr} {n c : Nat} (h : In1 w W0 b1 A n c) {W : World} (hW : Below W0.heap.size W0 W) :
    ((W.cell? ⟨w.heap.size + 1, 0, none⟩ = some (.int .i64 0) ∧ W.cell? ⟨w.heap.size + 1, 1, none⟩ = some (.slice none 0 0)) ∧ W.frozen? ⟨w.heap.size + 1, 0, none⟩ = false ∧ W.frozen? ⟨w.heap.size + 1, 1, none⟩ = false) ∧
      (∀ (b : Int) (P : Option Addr) (k d : Nat), ((W.setCell ⟨w.heap.size + 1, 0, none⟩ (.int .i64 b)).setCell ⟨w.heap.size + 1, 1, none⟩ (.slice P k d)).heap[w.heap.size + 1]? = some (hbx b P k d)) ∧
      ∀ x y : Value, Below w.heap.size w ((W.setCell ⟨w.heap.size + 1, 0, none⟩ x).setCell ⟨w.heap.size + 1, 1, none⟩ y) := by
  have e0 := (hW.block _ (by have := h.size; omega)).trans h.h1
  exact ⟨⟨bx_cells e0, bx_free e0⟩, bx_store e0, fun x y => ((h.up hW).setCell (p := ⟨w.heap.size + 1, 0, none⟩) (by simp) _).setCell (p := ⟨w.heap.size + 1, 1, none⟩) (by simp) _⟩
set_option maxRecDepth 100000 in
set_option maxHeartbeats 4000000 in
theorem coarse19 (b c : Nat) (A : Option Addr) (q : Nat) (l : List S44) (w : World) (h2 : 2 ≤ c) (hcb : c ≤ b) (hV : Valid b l) (hC : Kd.C k44 w A l.length l) (hc : l.length ≤ q) :
    Calls Tryd.prog 19 #[.agg #[.int .i64 (b : Int), .slice A l.length q], .int .i64 (c : Int)] w fun e w' => ∃ (P : Option Addr) (d : Nat) (r : List S44), e = .returned (.tuple #[.agg #[.int .i64 (c : Int), .slice P r.length d], .int .i64 0]) ∧
      r.length ≤ d ∧ Kd.C k44 w' P r.length r ∧ Below w.heap.size w w' ∧ IsHist (hs (cl b c l)) r := by
  have hl := valid_len hV
  have h8 := hV.b8
  obtain ⟨e, hce, _, _, he⟩ := chk_bits hV.b2 hV.b8 l (fun s hs' => by have := valid_bound hV s hs'; omega)
  obtain rfl := he.2 hV
  obtain ⟨k0, hk0⟩ := hce.rounds
  obtain ⟨W0, hW0⟩ : ∃ W0, (w.alloc (.cells #[.int .i64 (b : Int), .slice A l.length q] 25)).alloc (.cells #[.int .i64 0, .slice none 0 0] 25) = W0 := ⟨_, rfl⟩
  have hI : In1 w W0 b A l.length q := by rw [← hW0]; exact in1 w b A l.length q
  have hCa : ∀ W, Below W0.heap.size W0 W → Kd.C k44 W A l.length l := fun W h => Kd.C_below hC (hI.up h)
  have hcb0 := measure_Check.calls k0 (b : Int) A q l 0 W0 (hCa _ (Below.refl _ _)) hc hk0
  obtain ⟨f0, f1⟩ := hI.fr (Below.refl _ _)
  have d1 : decide ((c : Int) < 2) = false := decide_eq_false (by omega)
  have d2 : decide ((b : Int) < (c : Int)) = false := decide_eq_false (by omega)
  have d3 : decide (b < c) = false := decide_eq_false (by omega)
  have hmm := @run_makeMap Tryd.prog
  clear he hce hk0
  go_enter Tryd.func19, Tryd.ntmps19
  go_wp2_with (first
    | (go_at_call 9; refine hcb0.mono ?_; clear hcb0 f0 f1; rintro e w1 ⟨rfl, hB1⟩; obtain ⟨f0, f1⟩ := hI.fr hB1; obtain ⟨f2, f3⟩ := hI.fr (hB1.alloc hB1.size (.map #[] 0)))
    | go_in)
  clear f0 f1 f2 f3 hW0 d1 d2
  have hmW : W0.heap.size ≤ w1.heap.size := hB1.size
  go_loopw [31] (fun i wr => ∃ (k : Nat) (D : DataW Unit), k ≤ l.length ∧ i = .int .i64 k ∧ wr.ownsMap Tryd.prog 3 (plainElem Tryd.prog 3) w1.heap.size k D ∧ Cn D (hs (cl b c (l.take k))) k ∧ Below W0.heap.size W0 wr)
    (fun i _ => l.length - (intOf i).toNat)
  case atStart =>
    exact ⟨0, .map [], Nat.zero_le _, rfl, World.ownsMap_made w1 Tryd.prog 3 (plainElem (H := Unit) Tryd.prog 3), cn_nil.congr (fun y => by simp [cl, hs]), hB1.alloc hB1.size _⟩
  case round =>
    obtain ⟨k, D, hk, rfl, hown, hcn, hB⟩ := hrel
    have hbl := hown.lt
    by_cases hlt : k < l.length
    · have hd2 : decide ((k : Int) < (l.length : Int)) = true := decide_eq_true (by omega)
      obtain ⟨ad, rfl, q0, q1⟩ := at_T44 (hCa _ hB) (k : Int) (by omega) (by omega)
      rw [Int.toNat_natCast] at q0 q1
      have hin := rd44_mem hlt
      have hsb := (valid_bound hV _ hin).2
      obtain ⟨a, ha, hat⟩ := hV.place _ hin
      obtain ⟨lo, hi, hlim, _, hlo, _, hcl, _⟩ := lim_ev h2 hcb h8 a hat
      rw [← ha] at hlim hcl
      obtain ⟨hbk, _, hx0, hx1⟩ := bkt_ok h2 (by omega) hlo
      have hnext := hcn.add (bkt c lo) (rd_T44 l (k : Int)).f1 _ rfl
      have hnext2 : Cn (D.put (.int .i64 (bkt c lo)) (.lit (.int .i64 (hs (cl b c (l.take k)) (bkt c lo) + (rd_T44 l (k : Int)).f1)))) (hs (cl b c (l.take (k + 1)))) (k + 1) :=
        hnext.congr (fun y => by rw [hs_cl b c l k hlt, hcl])
      have hz0 : 0 ≤ hs (cl b c (l.take k)) (bkt c lo) ∧ hs (cl b c (l.take k)) (bkt c lo) ≤ 1125899906842624 := by
        have hp : ∀ s ∈ cl b c (l.take k), 0 ≤ s.f1 := fun s hs' => by
          obtain ⟨t, ht, rfl⟩ := List.mem_map.1 hs'
          have := hV.pos t (List.mem_of_mem_take ht)
          show 0 ≤ t.f1
          omega
        have h3 := hs_nonneg (bkt c lo) _ hp
        have h4 := hs_le_tot (bkt c lo) _ hp
        have h5 := tot_map (cb b c) (l.take k)
        have h6 := tot_take_le l k (fun s hs' => by have := hV.pos s hs'; omega)
        have h7 := hV.total
        have h8' : tot (cl b c (l.take k)) = tot (l.take k) := h5
        omega
      have hwx : (Lit.int .i64 (bkt c lo)).wf = true := WalkArith.wf_i64 (by omega)
      have hat0 := cn_atKey hcn hown (bkt c lo) hwx
      have hkm : k < maxLen := by
        have : (41000 : Nat) < maxLen := by decide
        omega
      have hlc := fun W => measure_limits.calls (b : Int) (rd_T44 l (k : Int)).f0 lo hi W hlim
      have hbc := fun W => measure_bucket.calls 1 (c : Int) lo (bkt c lo) W (hbk 0)
      have HN := Aside0.mk hnext2
      clear hnext hnext2 hcn hlim hcl hbk hat ha hin
      generalize hs (cl b c (l.take k)) (bkt c lo) = cz at HN hz0 hat0
      generalize bkt c lo = x at HN hwx hat0 hbc hx0 hx1
      generalize rd_T44 l (k : Int) = s at q0 q1 HN hsb hlc
      have wfc : (Lit.int .i64 (cz + s.f1)).wf = true := WalkArith.wf_i64 (by omega)
      have hcw2 : IntKind.i64.wrap (cz + s.f1) = cz + s.f1 := by rw [i64_w, w64 (by omega) (by omega)]
      obtain ⟨U, hU⟩ : ∃ U, wr.alloc (.cells #[.int .i64 s.f0, .int .i64 s.f1] 44) = U := ⟨_, rfl⟩
      have hownU : U.ownsMap Tryd.prog 3 (plainElem Tryd.prog 3) w1.heap.size k D := by rw [← hU]; exact hown.alloc _
      have hBU : Below W0.heap.size W0 U := by rw [← hU]; exact hB.alloc hB.size _
      have g0 : U.heap[wr.heap.size]? = some (.cells #[.int .i64 s.f0, .int .i64 s.f1] 44 (0, 0)) := by rw [← hU]; exact heap_alloc_new _ _
      have gne : wr.heap.size ≠ w1.heap.size := by omega
      obtain ⟨f0, f1⟩ := hI.fr hBU
      obtain ⟨e0, e1⟩ := hI.fr hB
      have u0 : U.cell? ⟨wr.heap.size, 0, none⟩ = some (.int .i64 s.f0) := by simp only [World.cell?, g0]; rfl
      have u1 : U.cell? ⟨wr.heap.size, 1, none⟩ = some (.int .i64 s.f1) := by simp only [World.cell?, g0]; rfl
      go_wp2_with (first
        | (go_at_call 45; refine (hlc _).mono ?_; rintro e w' ⟨rfl, ⟨nd, rfl⟩⟩)
        | go_in)
      have hgl : wr.heap.size < U.heap.size := by rw [← hU]; simp
      have hS0 : World.cell? ((U.drewN nd).drew) ⟨wr.heap.size, 1, none⟩ = some (.int .i64 s.f1) := u1
      clear f0 f1 e0 e1 u0 q0 q1 hlc hB hown hU
      go_region_held3 (fun W => W.cell? ⟨wr.heap.size, 1, none⟩ = some (.int .i64 s.f1)) (first | assumption | exact hS0)
        (first | (go_at_call 38; refine (hbc _).mono ?_; rintro e w' ⟨rfl, ⟨nd2, rfl⟩⟩; have hS1 : World.cell? (((U.drewN nd).drew).drewN nd2) ⟨wr.heap.size, 1, none⟩ = some (.int .i64 s.f1) := u1; have hS1' : World.cell? (U.drewN (nd + 1 + nd2)) ⟨wr.heap.size, 1, none⟩ = some (.int .i64 s.f1) := u1; have hown5 : World.ownsMap (U.drewN (nd + 1 + nd2)) Tryd.prog 3 (plainElem Tryd.prog 3) w1.heap.size k D := hownU; obtain ⟨c0, hrun, hat, -⟩ := hown5.lookup_int law3 Tryd.underlying58 Tryd.underlying3 (zero3 _) (keyOf_int_mk Tryd.underlying3 hwx); obtain rfl : cz = c0 := (by rw [hat0] at hat; simpa using hat); obtain ⟨w4, hup, hown4, hgrow4⟩ := hown5.update law3 Tryd.underlying58 hkm (keyOf_int_mk Tryd.underlying3 hwx) (plainElem_int Tryd.underlying3 wfc); have hS2 : w4.cell? ⟨wr.heap.size, 1, none⟩ = some (.int .i64 s.f1) := (by have := (hgrow4.block wr.heap.size hgl (fun e => gne (Option.some.inj e))).trans g0; simp only [World.cell?, this]; rfl)))
      (try simp only [Exit.inBlock, Exit.then])
      go_wp2
      exact ⟨⟨k + 1, _, by omega, by simp, hown4, HN.out, Below.grown (pw_below_drewN hBU (nd + 1 + nd2)) hgrow4 hBU.size (fun j hj => by have := Option.some.inj hj; omega)⟩, by simp [intOf]; omega⟩
    · have hke : k = l.length := by omega
      subst hke
      rw [List.take_length] at hcn
      obtain ⟨g0, g1⟩ := hI.fr hB
      have hh := hist35 w1.heap.size _ D (c : Int) wr hown (by have := hcn.size; omega)
      go_wp2_with (first
        | (go_at_call 39; refine hh.mono ?_; rintro e w4 ⟨v4, xs4, rfl, hV4, hB4, hr4, hw4, hm4⟩; have hH := cn_hist hcn hr4 hm4; generalize cnts D xs4 = r4 at hV4 hH; obtain ⟨P4, c4, rfl, hc4, hC4⟩ := ans_of_V hV4; have HF := Aside0.mk (hI.fin (hB.trans (Below.mono hB4 hB.size))); obtain ⟨⟨⟨g0, g1⟩, g2, g3⟩, -⟩ := hI.fin (hB.trans (Below.mono hB4 hB.size)))
        | go_in)
      (try simp only [Exit.inBlock, Exit.then])
      refine bodyPost_ret (results_ct rfl _ _ (w.heap.size + 1) 25 #[.int .i64 (c : Int), .slice P4 r4.length c4] (0, 0) _ rfl (HF.out.2.1 _ _ _ _) Tryd.underlying25 rfl (by kernel_rfl)) rfl ?_
      exact ⟨P4, c4, r4, rfl, hc4, V_store hV4 (by have := hI.size; have := hB.size; omega) _ _, HF.out.2.2 _ _, hH⟩
set_option maxRecDepth 100000 in
set_option maxHeartbeats 4000000 in
theorem coarse19f (bits c f : Int) (A : Option Addr) (q k0 : Nat) (l : List S44) (w : World) (hC : Kd.C k44 w A l.length l) (hc : l.length ≤ q)
    (h : (measure_Check.f k0 bits l = some f ∧ (f != 0) = true) ∨ (f = 9 ∧ measure_Check.f k0 bits l = some 0 ∧ (decide (c < 2) = true ∨ (decide (c < 2) = false ∧ decide (bits < c) = true)))) :
    Ans 19 #[.agg #[.int .i64 bits, .slice A l.length q], .int .i64 c] w (0, [], f) := by
  obtain ⟨W0, hW0⟩ : ∃ W0, (w.alloc (.cells #[.int .i64 bits, .slice A l.length q] 25)).alloc (.cells #[.int .i64 0, .slice none 0 0] 25) = W0 := ⟨_, rfl⟩
  have hI : In1 w W0 bits A l.length q := by rw [← hW0]; exact in1 w bits A l.length q
  have hCa : ∀ W, Below W0.heap.size W0 W → Kd.C k44 W A l.length l := fun W h => Kd.C_below hC (hI.up h)
  obtain ⟨f0, f1⟩ := hI.fr (Below.refl _ _)
  rcases h with ⟨hk0, d0⟩ | ⟨rfl, hk0, d0 | ⟨d0, d1⟩⟩
  all_goals
    have hcb0 := measure_Check.calls k0 bits A q l _ W0 (hCa _ (Below.refl _ _)) hc hk0
    clear hk0
    go_enter Tryd.func19, Tryd.ntmps19
    go_wp2_with (first
      | (go_at_call 9; refine hcb0.mono ?_; clear hcb0 f0 f1; rintro e w1 ⟨rfl, hB1⟩; obtain ⟨f0, f1⟩ := hI.fr hB1; have HF := Aside0.mk (hI.fin hB1); obtain ⟨⟨⟨g0, g1⟩, g2, g3⟩, -⟩ := hI.fin hB1)
      | go_in)
    (try simp only [Exit.inBlock, Exit.then])
    refine bodyPost_ret (results_ct rfl _ _ (w.heap.size + 1) 25 #[.int .i64 0, .slice none 0 0] (0, 0) _ rfl (HF.out.2.1 _ _ _ _) Tryd.underlying25 rfl (by kernel_rfl)) rfl ?_
    exact ⟨none, 0, rfl, Nat.le_refl _, C_nil _, HF.out.2.2 _ _⟩
end Go.Proofs.YtlkameeaaplonaaDoor

/- The bucket of a value, by the reference. -/
namespace Go.Proofs.YtlkameeaaplonaaDoor.QMeasureCoarseMatchesSpec
open Go.RowKit Go.Proofs.YtlkameeaaplonaaDoorW.PrintWords Go.Proofs.YtlkameeaaplonaaDoorW.PrintLast Go.Proofs.YtlkameeaaplonaaDoorW.PrintMore
set_option linter.unusedVariables false
set_option linter.unusedSimpArgs false
section
variable {b p J : Nat} (P : Par b p J)
include P
theorem place_end (k : Nat) (v j s : Nat) (hs : s = 2 ^ (j + 1)) (h1 : p * s ≤ v) (h2 : v < 2 * p * s) (hv : v < 1125899906842624) (hj : j < 50) :
    dynamometerref9_place.l0 (k + 1) (b : Int) (v : Int) (s : Int) ((p * s : Nat) : Int) (((j + 2) * p : Nat) : Int) (p : Int) = some (((j + 1) * p + v / s : Nat) : Int) := by
  have hp := P.p128
  have hp2 := P.p2
  have hs0 : 0 < s := by rw [hs]; exact Nat.pow_pos (by decide)
  have hm2 : v / s < 2 * p := (Nat.div_lt_iff_lt_mul hs0).2 h2
  have hm1 : p ≤ v / s := (Nat.le_div_iff_mul_le hs0).2 h1
  have hjp : (j + 2) * p ≤ 6656 := Nat.le_trans (Nat.mul_le_mul (show j + 2 ≤ 52 by omega) hp) (by decide)
  have ed : (v - p * s) / s = v / s - p := by
    rw [Nat.mul_comm p s, Nat.sub_mul_div]
  have e2 : 2 * p * s = p * s + p * s := by rw [Nat.mul_assoc]; omega
  have e3 : (j + 2) * p = j * p + p + p := by rw [Nat.succ_mul, Nat.succ_mul]
  have e4 : (j + 1) * p = j * p + p := Nat.succ_mul j p
  rw [dynamometerref9_place.l0, mulN p s (by omega), addN (p * s) (p * s) (by omega), if_neg (by omega), if_neg (by omega), subN v (p * s) h1 (by omega)]
  have et : Int.tdiv ((v - p * s : Nat) : Int) (s : Int) = ((v / s - p : Nat) : Int) := by
    rw [← ed]
    rw [Int.tdiv_eq_ediv_of_nonneg (by omega)]
    exact (Int.natCast_ediv _ _).symm
  rw [et]
  generalize v / s = m at hm1 hm2
  rw [w64 (n := ((m - p : Nat) : Int)) (by omega) (by omega), addN _ _ (by omega)]
  congr 2
  omega
theorem place_loop (v j : Nat) (h1 : p * 2 ^ (j + 1) ≤ v) (h2 : v < 2 * p * 2 ^ (j + 1)) (hv : v < 1125899906842624) (hj : j < 50) : ∀ (d i k : Nat), i + d = j →
    dynamometerref9_place.l0 (d + k + 1) (b : Int) (v : Int) ((2 ^ (i + 1) : Nat) : Int) ((p * 2 ^ (i + 1) : Nat) : Int) (((i + 2) * p : Nat) : Int) (p : Int) = some (((j + 1) * p + v / 2 ^ (j + 1) : Nat) : Int)
  | 0, i, k, e => by
    have e' : i = j := by omega
    subst e'
    rw [Nat.zero_add]
    exact place_end P k v i _ rfl h1 h2 hv hj
  | d + 1, i, k, e => by
    have hp := P.p128
    have hp2 := P.p2
    have ih := place_loop v j h1 h2 hv hj d (i + 1) k (by omega)
    have hle : p * 2 ^ (i + 2) ≤ v := Nat.le_trans (Nat.mul_le_mul_left p (Nat.pow_le_pow_right (by decide) (by omega))) h1
    have es : 2 ^ (i + 2) = 2 * 2 ^ (i + 1) := by rw [Nat.pow_succ 2 (i + 1)]; omega
    have es2 : 2 ^ (i + 1 + 1) = 2 * 2 ^ (i + 1) := es
    have hip : (i + 2) * p ≤ 6656 := Nat.le_trans (Nat.mul_le_mul (show i + 2 ≤ 52 by omega) hp) (by decide)
    have e3 : (i + 3) * p = (i + 2) * p + p := Nat.succ_mul _ _
    have e3' : (i + 1 + 2) * p = (i + 2) * p + p := e3
    rw [es2, e3'] at ih
    rw [es] at hle
    generalize hsg : 2 ^ (i + 1) = s at hle ih ⊢
    have hs1 : s ≤ p * s := Nat.le_mul_of_pos_left s (by omega)
    have e2 : p * (2 * s) = p * s + p * s := by rw [Nat.mul_left_comm]; omega
    rw [e2] at hle ih
    rw [show d + 1 + k + 1 = (d + k + 1) + 1 from by omega, dynamometerref9_place.l0, mulN p s (by omega), addN (p * s) (p * s) (by omega), if_pos (by omega), bm1 P, if_pos (by omega), dblN s (by omega), addN _ _ (by omega), sp P]
    exact ih
theorem place_lo (v k : Nat) (hv : v < 2 * p) : dynamometerref9_place.f (k + 1) (b : Int) (v : Int) = some (v : Int) := by
  have hp := P.p128
  unfold dynamometerref9_place.f
  rw [if_pos (by omega), sb P, dynamometerref9_place.l0]
  have e1 : wrap64 (((2 * p : Nat) : Int) * 1) = ((2 * p : Nat) : Int) := by rw [Int.mul_one]; exact w64 (by omega) (by omega)
  have e2 : wrap64 (0 + ((2 * p : Nat) : Int)) = ((2 * p : Nat) : Int) := by rw [Int.zero_add]; exact w64 (by omega) (by omega)
  have e3 : wrap64 ((v : Int) - 0) = (v : Int) := by rw [Int.sub_zero]; exact w64 (by omega) (by omega)
  have e4 : wrap64 (v : Int) = (v : Int) := w64 (by omega) (by omega)
  rw [e1, e2, if_neg (by omega), if_neg (by decide), e3, Int.tdiv_one, e4, Int.zero_add, e4]
theorem place_hi (v j k : Nat) (h1 : p * 2 ^ (j + 1) ≤ v) (h2 : v < 2 * p * 2 ^ (j + 1)) (hv : v < 1125899906842624) :
    dynamometerref9_place.f (j + k + 2) (b : Int) (v : Int) = some (((j + 1) * p + v / 2 ^ (j + 1) : Nat) : Int) := by
  obtain ⟨hj, hm1, hm2⟩ := dbl_facts P h1 h2 hv
  have hp := P.p128
  have hpos : 2 * p ≤ v := by
    have : p * 2 ≤ p * 2 ^ (j + 1) := Nat.mul_le_mul_left p (by rw [Nat.pow_succ]; have := Nat.pow_pos (n := j) (show 0 < 2 by decide); omega)
    omega
  have h := place_loop P v j h1 h2 hv hj j 0 k (by omega)
  unfold dynamometerref9_place.f
  have e1 : wrap64 (((2 * p : Nat) : Int) * 1) = ((2 * p : Nat) : Int) := by rw [Int.mul_one]; exact w64 (by omega) (by omega)
  have e2 : wrap64 (0 + ((2 * p : Nat) : Int)) = ((2 * p : Nat) : Int) := by rw [Int.zero_add]; exact w64 (by omega) (by omega)
  rw [if_pos (by omega), sb P, dynamometerref9_place.l0, e1, e2, if_pos (by omega), bm1 P, if_pos (by omega), sp P]
  have e5 : wrap64 (2 * 1) = ((2 ^ (0 + 1) : Nat) : Int) := (w64 (n := 2 * 1) (by omega) (by omega)).trans (by decide)
  have e6 : ((2 * p : Nat) : Int) = ((p * 2 ^ (0 + 1) : Nat) : Int) := by rw [show p * 2 ^ (0 + 1) = 2 * p from by omega]
  have e7 : ((2 * p : Nat) : Int) = (((0 + 2) * p : Nat) : Int) := by rw [Nat.zero_add]
  rw [e5]
  have h' := h
  rw [← e6, ← e7] at h'
  exact h'
end
end Go.Proofs.YtlkameeaaplonaaDoor.QMeasureCoarseMatchesSpec

/- The bucket of a value, by the reference. Condition: the value is good. -/
namespace Go.Proofs.YtlkameeaaplonaaDoor
open Go.RowKit Go.Proofs.YtlkameeaaplonaaDoor.QMeasureCoarseMatchesSpec Go.Proofs.YtlkameeaaplonaaDoorW.PrintWords Go.Proofs.YtlkameeaaplonaaDoorW.PrintLast Go.Proofs.YtlkameeaaplonaaDoorW.PrintMore
set_option linter.unusedVariables false
set_option linter.unusedSimpArgs false
theorem place_ev {b : Nat} (h2 : 2 ≤ b) (h8 : b ≤ 8) {v : Int} (hv : okV v) : Ev (fun k => dynamometerref9_place.f k (b : Int) v) (bkt b v) := by
  have P := par_of b h2 h8
  obtain ⟨m, rfl⟩ := Int.eq_ofNat_of_zero_le hv.1
  have hm : m < 1125899906842624 := by omega
  rcases value_cases P m hm with h0 | ⟨j, h1, h3, hj⟩
  · refine ⟨1, fun k hk => ?_⟩
    obtain ⟨k, rfl⟩ : ∃ n, k = n + 1 := ⟨k - 1, by omega⟩
    rw [bkt_lo P m h0]
    exact place_lo P m k h0
  · refine ⟨j + 2, fun k hk => ?_⟩
    obtain ⟨n, rfl⟩ : ∃ n, k = j + n + 2 := ⟨k - (j + 2), by omega⟩
    rw [bkt_hi P m j h1 h3 hm]
    exact place_hi P m j n h1 h3 hm
end Go.Proofs.YtlkameeaaplonaaDoor

/- More of a bucket, by the reference. Condition: the histogram is short, its counts are in 64 bits with what comes. -/
namespace Go.Proofs.YtlkameeaaplonaaDoor
open Go.RowKit Go.Proofs.YtlkameeaaplonaaDoor.QMeasureCoarseMatchesSpec Go.Proofs.YtlkameeaaplonaaDoorW.PrintWords Go.Proofs.YtlkameeaaplonaaDoorW.PrintLast Go.Proofs.YtlkameeaaplonaaDoorW.PrintMore
set_option linter.unusedVariables false
set_option linter.unusedSimpArgs false
/-- A histogram with n more of x, n above 0. -/
def moreL (x n : Int) : List S44 → List S44
  | [] => [⟨x, n⟩]
  | s :: r => if s.f0 ≥ x then (if s.f0 = x then ⟨s.f0, s.f1 + n⟩ :: r else ⟨x, n⟩ :: s :: r) else s :: moreL x n r
theorem hs_moreL (x n y : Int) : ∀ l : List S44, hs (moreL x n l) y = hs l y + if x = y then n else 0
  | [] => by simp [moreL, hs]
  | s :: r => by
    rw [moreL]
    split
    · split
      · rename_i h1 h2
        show (if s.f0 = y then s.f1 + n else 0) + hs r y = _
        rw [hs, h2]
        split <;> omega
      · show (if x = y then n else 0) + hs (s :: r) y = _
        omega
    · rw [hs, hs, hs_moreL x n y r]
      omega
theorem moreL_mem (x n : Int) (s : S44) : ∀ l : List S44, s ∈ moreL x n l → s.f0 = x ∨ ∃ t ∈ l, t.f0 = s.f0
  | [], h => by
    simp [moreL] at h
    exact .inl (by rw [h])
  | t :: r, h => by
    rw [moreL] at h
    split at h
    · split at h
      · rcases List.mem_cons.1 h with rfl | h
        · exact .inr ⟨t, by simp, rfl⟩
        · exact .inr ⟨s, by simp [h], rfl⟩
      · rcases List.mem_cons.1 h with rfl | h
        · exact .inl rfl
        · exact .inr ⟨s, h, rfl⟩
    · rcases List.mem_cons.1 h with rfl | h
      · exact .inr ⟨s, by simp, rfl⟩
      · rcases moreL_mem x n s r h with h | ⟨u, hu, e⟩
        · exact .inl h
        · exact .inr ⟨u, by simp [hu], e⟩
theorem moreL_rising (x n : Int) : ∀ l : List S44, (l.map (·.f0)).Pairwise (· < ·) → ((moreL x n l).map (·.f0)).Pairwise (· < ·)
  | [], _ => by simp [moreL]
  | s :: r, h => by
    have h' := h
    rw [List.map_cons, List.pairwise_cons] at h'
    rw [moreL]
    split
    · split
      · exact h
      · rename_i h1 h2
        rw [List.map_cons, List.pairwise_cons]
        refine ⟨fun y hy => ?_, h⟩
        rcases List.mem_cons.1 hy with rfl | hy
        · show x < s.f0
          omega
        · have := h'.1 y hy
          show x < y
          omega
    · rename_i h1
      rw [List.map_cons, List.pairwise_cons]
      refine ⟨fun y hy => ?_, moreL_rising x n r h'.2⟩
      obtain ⟨t, ht, rfl⟩ := List.mem_map.1 hy
      rcases moreL_mem x n t r ht with e | ⟨u, hu, e⟩
      · rw [e]
        omega
      · rw [← e]
        exact h'.1 _ (List.mem_map.2 ⟨u, hu, rfl⟩)
theorem moreL_pos (x n : Int) (hn : 0 < n) : ∀ l : List S44, (∀ s ∈ l, 0 < s.f1) → ∀ s ∈ moreL x n l, 0 < s.f1
  | [], _, s, h => by
    simp [moreL] at h
    rw [h]
    exact hn
  | t :: r, hp, s, h => by
    have ht := hp t (by simp)
    rw [moreL] at h
    split at h
    · split at h
      · rcases List.mem_cons.1 h with rfl | h
        · show 0 < t.f1 + n
          omega
        · exact hp s (by simp [h])
      · rcases List.mem_cons.1 h with rfl | h
        · exact hn
        · exact hp s h
    · rcases List.mem_cons.1 h with rfl | h
      · exact ht
      · exact moreL_pos x n hn r (fun u hu => hp u (by simp [hu])) s h
theorem moreL_len (x n : Int) : ∀ l : List S44, (moreL x n l).length ≤ l.length + 1
  | [] => by simp [moreL]
  | s :: r => by
    rw [moreL]
    have := moreL_len x n r
    split
    · split <;> simp
    · simp
      omega
/-- More of a bucket. -/
def moreF (x n : Int) (l : List S44) : List S44 := if n = 0 then l else moreL x n l
/-- A histogram with the counts F, short. -/
structure IsH (F : Int → Int) (m : Nat) (l : List S44) : Prop where
  hist : IsHist F l
  len : l.length ≤ m
theorem isH_nil (m : Nat) : IsH (fun _ => 0) m [] := ⟨⟨by simp, fun s => by simp; omega⟩, by simp⟩
theorem isH_more {F : Int → Int} {m : Nat} {l : List S44} (h : IsH F m l) (h0 : ∀ x, 0 ≤ F x) (x n : Int) (hn : 0 ≤ n) : IsH (fun y => F y + if x = y then n else 0) (m + 1) (moreF x n l) := by
  unfold moreF
  by_cases h1 : n = 0
  · rw [if_pos h1]
    exact ⟨h.hist.congr (fun y => by split <;> omega), by have := h.len; omega⟩
  · rw [if_neg h1]
    refine ⟨(isHist_hs (moreL_rising x n l h.hist.rising) (moreL_pos x n (by omega) l h.hist.pos)).congr fun y => ?_, by have := moreL_len x n l; have := h.len; omega⟩
    rw [hs_moreL, h.hist.eq h0]
theorem isH_bound' {F : Int → Int} {m : Nat} {l : List S44} (h : IsH F m l) {B : Int} (hB : ∀ y, F y ≤ B) : ∀ s ∈ l, 0 < s.f1 ∧ s.f1 ≤ B := fun s hs' => by
  obtain ⟨h1, h2⟩ := (h.hist.mem s).1 hs'
  have := hB s.f0
  omega
theorem more_done (x n bits : Int) (l : List S44) (hl : l.length ≤ 1000000) : ∀ (d i : Nat) (out : List S44), i + d = l.length → out.length ≤ i + 1 → Ev (fun k => dynamometerref9_more.l0 k x n true (i : Int) bits l bits out) (bits, out ++ l.drop i) := by
  intro d
  induction d with
  | zero =>
    intro i out hi ho
    refine Ev.step (f := fun _ => some (bits, out ++ l.drop i)) (fun k => ?_) (Ev.now _)
    rw [dynamometerref9_more.l0, if_neg (by omega), if_pos rfl, List.drop_of_length_le (by omega), List.append_nil]
  | succ d ih =>
    intro i out hi ho
    have hd : l.drop i = rd_T44 l (i : Int) :: l.drop (i + 1) := by rw [rd44 (by omega)]; exact List.drop_eq_getElem_cons (by omega)
    have h := ih (i + 1) (out ++ [rd_T44 l (i : Int)]) (by omega) (by rw [List.length_append]; simp; omega)
    rw [hd]
    rw [List.append_assoc, List.singleton_append] at h
    refine Ev.step (f := fun k => dynamometerref9_more.j1 k x n true (i : Int) false bits l bits out (rd_T44 l (i : Int)).f0 (rd_T44 l (i : Int)).f1) (fun k => ?_) (Ev.step (fun k => ?_) h)
    · rw [dynamometerref9_more.l0, if_pos (by omega), if_pos (by omega), if_pos rfl]
    · rw [dynamometerref9_more.j1, if_neg (by decide), if_pos (by omega), add1N i (by omega)]
theorem more_loop (x n bits : Int) (l : List S44) (hl : l.length ≤ 1000000) (hw : ∀ s ∈ l, -9223372036854775808 ≤ s.f1 + n ∧ s.f1 + n < 9223372036854775808) : ∀ (d i : Nat) (out : List S44), i + d = l.length → out.length ≤ i →
    Ev (fun k => dynamometerref9_more.l0 k x n false (i : Int) bits l bits out) (bits, out ++ moreL x n (l.drop i)) := by
  intro d
  induction d with
  | zero =>
    intro i out hi ho
    rw [List.drop_of_length_le (by omega), moreL]
    refine Ev.step (f := fun _ => some (bits, out ++ [(⟨x, n⟩ : S44)])) (fun k => ?_) (Ev.now _)
    rw [dynamometerref9_more.l0, if_neg (by omega), if_neg (by decide), if_pos (by omega)]
  | succ d ih =>
    intro i out hi ho
    have hil : i < l.length := by omega
    have hd : l.drop i = rd_T44 l (i : Int) :: l.drop (i + 1) := by rw [rd44 (by omega)]; exact List.drop_eq_getElem_cons (by omega)
    obtain ⟨w1, w2⟩ := hw _ (rd44_mem hil)
    have ew : wrap64 ((rd_T44 l (i : Int)).f1 + n) = (rd_T44 l (i : Int)).f1 + n := w64 w1 w2
    have es := add1N i (by omega)
    rw [hd, moreL]
    by_cases hx : (rd_T44 l (i : Int)).f0 ≥ x
    · rw [if_pos hx]
      by_cases he : (rd_T44 l (i : Int)).f0 = x
      · rw [if_pos he]
        have h := more_done x n bits l hl d (i + 1) (out ++ [(⟨(rd_T44 l (i : Int)).f0, (rd_T44 l (i : Int)).f1 + n⟩ : S44)]) (by omega) (by rw [List.length_append]; simp; omega)
        rw [List.append_assoc, List.singleton_append] at h
        refine Ev.step (f := fun k => dynamometerref9_more.j1 k x n false (i : Int) true bits l bits out (rd_T44 l (i : Int)).f0 (rd_T44 l (i : Int)).f1) (fun k => ?_) (Ev.step (fun k => ?_) h)
        · rw [dynamometerref9_more.l0, if_pos (by omega), if_pos (by omega), if_neg (by decide), decide_eq_true hx]
        · rw [dynamometerref9_more.j1, if_pos rfl, if_pos he, if_pos (by omega), es, ew]
      · rw [if_neg he]
        have h := more_done x n bits l hl d (i + 1) (out ++ [(⟨x, n⟩ : S44)] ++ [rd_T44 l (i : Int)]) (by omega) (by rw [List.length_append, List.length_append]; simp; omega)
        have e2 : out ++ [(⟨x, n⟩ : S44)] ++ [rd_T44 l (i : Int)] ++ l.drop (i + 1) = out ++ (⟨x, n⟩ : S44) :: rd_T44 l (i : Int) :: l.drop (i + 1) := by simp
        rw [e2] at h
        refine Ev.step (f := fun k => dynamometerref9_more.j1 k x n false (i : Int) true bits l bits out (rd_T44 l (i : Int)).f0 (rd_T44 l (i : Int)).f1) (fun k => ?_) (Ev.step (fun k => ?_) h)
        · rw [dynamometerref9_more.l0, if_pos (by omega), if_pos (by omega), if_neg (by decide), decide_eq_true hx]
        · rw [dynamometerref9_more.j1, if_pos rfl, if_neg he, if_pos (by omega), Option.bind_some, if_pos (by rw [List.length_append]; simp; omega), es]
    · rw [if_neg hx]
      have h := ih (i + 1) (out ++ [rd_T44 l (i : Int)]) (by omega) (by rw [List.length_append]; simp; omega)
      rw [List.append_assoc, List.singleton_append] at h
      refine Ev.step (f := fun k => dynamometerref9_more.j1 k x n false (i : Int) false bits l bits out (rd_T44 l (i : Int)).f0 (rd_T44 l (i : Int)).f1) (fun k => ?_) (Ev.step (fun k => ?_) h)
      · rw [dynamometerref9_more.l0, if_pos (by omega), if_pos (by omega), if_neg (by decide), decide_eq_false hx]
      · rw [dynamometerref9_more.j1, if_neg (by decide), if_pos (by omega), es]
/-- More of a bucket, by the reference. -/
theorem more_ev (x n bits : Int) (l : List S44) (hl : l.length ≤ 1000000) (hw : ∀ s ∈ l, -9223372036854775808 ≤ s.f1 + n ∧ s.f1 + n < 9223372036854775808) : Ev (fun k => dynamometerref9_more.f k bits l x n) (bits, moreF x n l) := by
  unfold moreF
  by_cases h0 : n = 0
  · have h := more_done x n bits l hl l.length 0 [] (by omega) (by simp)
    rw [if_pos h0]
    refine Ev.congr (fun k => ?_) h
    unfold dynamometerref9_more.f
    rw [h0]
    rfl
  · have h := more_loop x n bits l hl hw l.length 0 [] (by omega) (by simp)
    rw [if_neg h0]
    refine Ev.congr (fun k => ?_) h
    unfold dynamometerref9_more.f
    rw [beq_eq_false_iff_ne.2 h0]
    rfl
end Go.Proofs.YtlkameeaaplonaaDoor
