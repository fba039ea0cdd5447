/- The plain law: the value of the rank lies within the limits of the count with which the rank is reached. -/
import Derived.Test.YtploonojacdflaaMeqQP
namespace Go.Proofs.Ytploonojacdflaa.Quant
open Go.RowKit Go.Proofs.Ytploonojacdflaa Go.Proofs.Ytploonojacdflaa.QMeasureQuantileBrackets Go.Proofs.YtploonojacdflaaW.PrintWords Go.Proofs.YtploonojacdflaaW.PrintLast Go.Proofs.YtploonojacdflaaW.PrintMore
set_option linter.unusedVariables false
set_option linter.unusedSimpArgs false
/-- The bucket of a value. -/
def bkt (b : Nat) (v : Int) : Int := (measure_bucket.f 1 (b : Int) v).getD 0
section
variable {b p J : Nat} (P : Par b p J)
include P
theorem bkt_lo (v : Nat) (hv : v < 2 * p) : bkt b (v : Int) = (v : Int) := by
  unfold bkt
  rw [bucket_lo P v 1 hv]
  rfl
theorem bkt_hi (v j : Nat) (h1 : p * 2 ^ (j + 1) ≤ v) (h2 : v < 2 * p * 2 ^ (j + 1)) (hv : v < 1125899906842624) : bkt b (v : Int) = (((j + 1) * p + v / 2 ^ (j + 1) : Nat) : Int) := by
  unfold bkt
  rw [bucket_hi P v j 0 h1 h2 hv]
  rfl
theorem bkt_mono (v u : Nat) (h : v ≤ u) (hu : u < 1125899906842624) : bkt b (v : Int) ≤ bkt b (u : Int) := by
  have hp2 := P.p2
  rcases value_cases P v (by omega) with hv | ⟨j, h1, h2, hj⟩
  · rw [bkt_lo P v hv]
    rcases value_cases P u hu with hu' | ⟨i, g1, g2, gj⟩
    · rw [bkt_lo P u hu']
      omega
    · rw [bkt_hi P u i g1 g2 hu]
      obtain ⟨_, m1, _⟩ := dbl_facts P g1 g2 hu
      have e : (i + 1) * p = i * p + p := Nat.succ_mul i p
      omega
  · have hpv : 2 * p ≤ v := by
      have : p * 2 ≤ p * 2 ^ (j + 1) := Nat.mul_le_mul_left p (by rw [Nat.pow_succ]; have := Nat.pow_pos (n := j) (show 0 < 2 by decide); omega)
      omega
    rcases value_cases P u hu with hu' | ⟨i, g1, g2, gj⟩
    · omega
    · rw [bkt_hi P v j h1 h2 (by omega), bkt_hi P u i g1 g2 hu]
      obtain ⟨_, m1, m2⟩ := dbl_facts P h1 h2 (by omega)
      obtain ⟨_, n1, n2⟩ := dbl_facts P g1 g2 hu
      rcases Nat.lt_trichotomy j i with hlt | rfl | hgt
      · have e1 : (i + 1) * p = i * p + p := Nat.succ_mul i p
        have e2 : (j + 1) * p ≤ i * p := Nat.mul_le_mul_right p hlt
        omega
      · have := Nat.div_le_div_right (c := 2 ^ (j + 1)) h
        omega
      · have e1 : 2 * p * 2 ^ (i + 1) = p * 2 ^ (i + 1 + 1) := by rw [Nat.pow_succ 2 (i + 1), Nat.mul_comm 2 p, Nat.mul_assoc, Nat.mul_comm (2 ^ (i + 1)) 2]
        have e2 : p * 2 ^ (i + 1 + 1) ≤ p * 2 ^ (j + 1) := Nat.mul_le_mul_left p (Nat.pow_le_pow_right (by decide) (by omega))
        omega
theorem bkt_spec (v : Nat) (hv : v < 1125899906842624) : measure_bucket.f 1 (b : Int) (v : Int) = some (bkt b (v : Int)) ∧ ∃ a : Nat, bkt b (v : Int) = (a : Int) ∧ a ≤ J * p + (2 * p - 1) ∧
    ∃ x y : Int, measure_limits.f (b : Int) (a : Int) = some (x, y) ∧ x ≤ v ∧ (v : Int) ≤ y ∧ 0 ≤ x ∧ y < 1125899906842624 ∧ y - x ≤ shr .i64 x (wrap64 ((b : Int) - 1)) := by
  have hp2 := P.p2
  have hb2 := P.b2
  have hb8 := P.b8
  rw [bm1 P]
  rcases value_cases P v hv with h0 | ⟨j, h1, h2, hj⟩
  · refine ⟨by rw [bkt_lo P v h0]; exact bucket_lo P v 1 h0, v, bkt_lo P v h0, lo_valid h0, v, v, limits_lo P v h0, Int.le_refl _, Int.le_refl _, by omega, by omega, ?_⟩
    rw [shrN v (b - 1) (by omega), Int.sub_self]
    exact Int.natCast_nonneg _
  · obtain ⟨hj50, hm1, hm2⟩ := dbl_facts P h1 h2 hv
    have hs0 : 0 < 2 ^ (j + 1) := Nat.pow_pos (by decide)
    have e0 : p + (v / 2 ^ (j + 1) - p) = v / 2 ^ (j + 1) := by omega
    have ht : v / 2 ^ (j + 1) - p < p := by omega
    have hl := limits_hi P j (v / 2 ^ (j + 1) - p) ht hj
    have hval := (valid_iff P ht).2 hj
    rw [e0] at hl hval
    have hlow := Nat.div_mul_le_self v (2 ^ (j + 1))
    have h3 := Nat.lt_div_mul_add (a := v) hs0
    have h4 : (v / 2 ^ (j + 1) + 1) * 2 ^ (j + 1) = v / 2 ^ (j + 1) * 2 ^ (j + 1) + 2 ^ (j + 1) := Nat.succ_mul _ _
    have h5 : (v / 2 ^ (j + 1) + 1) * 2 ^ (j + 1) ≤ 2 * p * 2 ^ (j + 1) := Nat.mul_le_mul_right _ (by omega)
    have h6 := pw_le P hj
    refine ⟨by rw [bkt_hi P v j h1 h2 hv]; exact bucket_hi P v j 0 h1 h2 hv, _, bkt_hi P v j h1 h2 hv, hval, _, _, hl, by omega, by omega, by omega, by omega, ?_⟩
    rw [shrN _ (b - 1) (by omega), ← P.hp]
    have h7 : 2 ^ (j + 1) ≤ v / 2 ^ (j + 1) * 2 ^ (j + 1) / p := by
      rw [Nat.le_div_iff_mul_le (by omega), Nat.mul_comm]
      exact Nat.mul_le_mul_right _ hm1
    omega
end
theorem countP_mem (a : Int) (t : List Int) (h : a ∉ t) : ∀ bs : List Int, bs.countP (fun y => decide (y ∈ a :: t)) = bs.count a + bs.countP (fun y => decide (y ∈ t))
  | [] => by simp
  | y :: bs => by
    rw [List.countP_cons, List.count_cons, List.countP_cons, countP_mem a t h bs]
    by_cases hy : y = a
    · subst hy
      simp [h]
      omega
    · by_cases ht : y ∈ t
      · simp [hy, ht]
        omega
      · simp [hy, ht]
theorem ahead_count (bs : List Int) : ∀ r : List S53, (r.map (·.f0)).Pairwise (· < ·) → (∀ s ∈ r, s.f1 = (bs.count s.f0 : Int)) → ahead r = (bs.countP (fun y => decide (y ∈ r.map (·.f0))) : Int)
  | [], _, _ => by
    have : bs.countP (fun y => decide (y ∈ ([] : List S53).map (·.f0))) = 0 := by simp
    rw [this]
    rfl
  | s :: r, hp, hm => by
    rw [List.map_cons, List.pairwise_cons] at hp
    have hn : s.f0 ∉ r.map (·.f0) := fun h => by have := hp.1 _ h; omega
    rw [List.map_cons, countP_mem _ _ hn]
    show s.f1 + ahead r = _
    rw [ahead_count bs r hp.2 (fun t ht => hm t (by simp [ht])), hm s (by simp)]
    omega
theorem tally_pos {bs : List Int} {l : List S53} (h : IsTally bs l) (hn : bs.length ≤ 20000) : ∀ s ∈ l, 1 ≤ s.f1 ∧ s.f1 ≤ 20000 := fun s hs => by
  obtain ⟨h1, h2⟩ := (h.mem s).1 hs
  have h3 := List.count_pos_iff.2 h1
  have h4 := List.count_le_length (a := s.f0) (l := bs)
  omega
theorem tally_all {bs : List Int} {l : List S53} (h : IsTally bs l) : ahead l = (bs.length : Int) := by
  rw [ahead_count bs l h.rising (fun s hs => ((h.mem s).1 hs).2)]
  congr 1
  rw [List.countP_eq_length]
  intro y hy
  have := (h.mem ⟨y, (bs.count y : Int)⟩).2 ⟨hy, rfl⟩
  exact decide_eq_true (List.mem_map.2 ⟨_, this, rfl⟩)
theorem ahead_ge : ∀ l : List S53, (∀ s ∈ l, 1 ≤ s.f1) → (l.length : Int) ≤ ahead l
  | [], _ => by simp [ahead]
  | s :: r, h => by
    have := ahead_ge r (fun t ht => h t (by simp [ht]))
    have := h s (by simp)
    simp only [ahead, List.length_cons]
    omega
theorem tally_len {bs : List Int} {l : List S53} (h : IsTally bs l) : l.length ≤ bs.length := by
  have h1 := ahead_ge l (fun s hs => by
    obtain ⟨h1, h2⟩ := (h.mem s).1 hs
    have h3 := List.count_pos_iff.2 h1
    omega)
  have h2 := tally_all h
  omega
/-- P3. -/
theorem bracket (b : Nat) (h2 : 2 ≤ b) (h8 : b ≤ 8) (xs : List Int) (hx : ∀ x ∈ xs, 0 ≤ x ∧ x < 1125899906842624) (l : List S53) (hT : IsTally (xs.map (bkt b)) l) (num den K : Int) (hK1 : 1 ≤ K) (hKn : K ≤ (xs.length : Int))
    (hK2 : ∀ c : Int, 1 ≤ c → (xs.length : Int) * num ≤ c * den → K ≤ c) (hK3 : ∀ c : Int, K ≤ c → (xs.length : Int) * num ≤ c * den)
    (lo hi : Nat → Int) (hlim : ∀ i : Nat, measure_limits.f (b : Int) (rd_T53 l (i : Int)).f0 = some (lo i, hi i)) (X Y : Int) (hTold : Told l K lo hi X Y) :
    (∀ v ∈ xs, (xs.length : Int) * num ≤ (xs.countP (fun u => decide (u ≤ v)) : Int) * den → (xs.countP (fun u => decide (u < v)) = 0 ∨ (xs.countP (fun u => decide (u < v)) : Int) * den < (xs.length : Int) * num) → X ≤ v ∧ v ≤ Y) ∧
    0 ≤ X ∧ Y < 1125899906842624 ∧ X ≤ Y ∧ Y - X ≤ shr .i64 X (wrap64 ((b : Int) - 1)) := by
  have P := par_of b h2 h8
  have hall := tally_all hT
  rw [List.length_map] at hall
  have hget : ∀ i (h : i < l.length), rd_T53 l (i : Int) = l[i] := fun i h => by simp [rd_T53, List.getD, List.getElem?_eq_getElem h]
  have hmem : ∀ i (h : i < l.length), ∃ v ∈ xs, bkt b v = (rd_T53 l (i : Int)).f0 := fun i h => by
    have h1 := ((hT.mem _).1 (List.getElem_mem h)).1
    rw [hget i h]
    simpa using h1
  rcases hTold with ⟨_, _, hnone⟩ | ⟨i, hi_, hbefore, hreach, rfl, rfl⟩
  · exfalso
    have hl0 : l.length ≠ 0 := fun e => by
      have : l = [] := List.length_eq_zero_iff.1 e
      subst this
      have : ahead ([] : List S53) = 0 := rfl
      omega
    have h1 := hnone (l.length - 1) (by omega)
    rw [← ahead_succ (by omega), show l.length - 1 + 1 = l.length from by omega, List.take_length] at h1
    omega
  · rw [← ahead_succ hi_] at hreach
    have hsplit : ∀ j, j ≤ l.length → ahead (l.take j) = ((xs.map (bkt b)).countP (fun y => decide (y ∈ (l.take j).map (·.f0))) : Int) := fun j hj =>
      ahead_count _ _ (by rw [List.map_take]; exact hT.rising.sublist (List.take_sublist _ _)) (fun s hs => ((hT.mem s).1 (List.mem_of_mem_take hs)).2)
    -- a bucket that is less than that of place j is ahead of j
    have hahead : ∀ j (hj : j < l.length), ∀ u ∈ xs, bkt b u < (rd_T53 l (j : Int)).f0 → bkt b u ∈ (l.take j).map (·.f0) := fun j hj u hu hlt => by
      have h1 := (hT.mem ⟨bkt b u, ((xs.map (bkt b)).count (bkt b u) : Int)⟩).2 ⟨List.mem_map.2 ⟨u, hu, rfl⟩, rfl⟩
      obtain ⟨q, hq, he⟩ := List.mem_iff_getElem.1 h1
      have hqj : q < j := by
        rcases Nat.lt_or_ge q j with h | h
        · exact h
        · exfalso
          rw [hget j hj] at hlt
          have e1 : (l[q]).f0 = bkt b u := by rw [he]
          rcases Nat.eq_or_lt_of_le h with e | h'
          · subst e
            omega
          · have := List.pairwise_iff_getElem.1 hT.rising j q (by rw [List.length_map]; omega) (by rw [List.length_map]; omega) h'
            simp only [List.getElem_map] at this
            omega
      exact List.mem_map.2 ⟨l[q], List.mem_iff_getElem.2 ⟨q, by rw [List.length_take]; omega, by simp⟩, by rw [he]⟩
    have hmem2 : ∀ j (hj : j < l.length), ∀ y ∈ (l.take (j + 1)).map (·.f0), y ≤ (rd_T53 l (j : Int)).f0 := fun j hj y hy => by
      obtain ⟨s, hs, rfl⟩ := List.mem_map.1 hy
      obtain ⟨q, hq, he⟩ := List.mem_iff_getElem.1 hs
      rw [List.length_take] at hq
      rw [List.getElem_take] at he
      rw [hget j hj, ← he]
      rcases Nat.eq_or_lt_of_le (show q ≤ j by omega) with e | h'
      · subst e
        exact Int.le_refl _
      · have := List.pairwise_iff_getElem.1 hT.rising q j (by rw [List.length_map]; omega) (by rw [List.length_map]; omega) h'
        simp only [List.getElem_map] at this
        omega
    have hlims : ∀ v ∈ xs, bkt b v = (rd_T53 l (i : Int)).f0 → lo i ≤ v ∧ v ≤ hi i ∧ 0 ≤ lo i ∧ hi i < 1125899906842624 ∧ hi i - lo i ≤ shr .i64 (lo i) (wrap64 ((b : Int) - 1)) := fun v hv he => by
      obtain ⟨n, rfl⟩ := Int.eq_ofNat_of_zero_le (hx v hv).1
      obtain ⟨_, a, ea, _, x, y, e1, e2, e3, e4, e5, e6⟩ := bkt_spec P n (by have := (hx _ hv).2; omega)
      rw [← ea, he, hlim i] at e1
      injection e1 with e1
      injection e1 with e1 e1'
      subst e1 e1'
      exact ⟨e2, e3, e4, e5, e6⟩
    obtain ⟨v0, hv0, e0⟩ := hmem i hi_
    have hw := hlims v0 hv0 e0
    refine ⟨fun v hv hnot hless => ?_, hw.2.2.1, hw.2.2.2.1, by omega, hw.2.2.2.2⟩
    have hbv : bkt b v = (rd_T53 l (i : Int)).f0 := by
      rcases Int.lt_trichotomy (bkt b v) (rd_T53 l (i : Int)).f0 with hlt | he | hgt
      · -- all that are not greater are ahead of place i
        exfalso
        have hi0 : i ≠ 0 := fun e => by
          subst e
          have := hahead 0 hi_ v hv hlt
          simp at this
        have h1 := hbefore (i - 1) (by omega)
        rw [← ahead_succ (by omega), show i - 1 + 1 = i from by omega, hsplit i (by omega), List.countP_map] at h1
        have h3 : xs.countP (fun u => decide (u ≤ v)) ≤ xs.countP ((fun y => decide (y ∈ (l.take i).map (·.f0))) ∘ bkt b) := List.countP_mono_left fun u hu hle => by
          have hle' : u ≤ v := of_decide_eq_true hle
          refine decide_eq_true (hahead i hi_ u hu ?_)
          obtain ⟨n, rfl⟩ := Int.eq_ofNat_of_zero_le (hx v hv).1
          obtain ⟨m, rfl⟩ := Int.eq_ofNat_of_zero_le (hx u hu).1
          have := bkt_mono P m n (by omega) (by have := (hx _ hv).2; omega)
          omega
        have h4 : 1 ≤ xs.countP (fun u => decide (u ≤ v)) := List.countP_pos_iff.2 ⟨v, hv, decide_eq_true (Int.le_refl _)⟩
        have h5 := hK2 _ (by omega) hnot
        omega
      · exact he
      · exfalso
        rw [hsplit (i + 1) (by omega), List.countP_map] at hreach
        have h3 : xs.countP ((fun y => decide (y ∈ (l.take (i + 1)).map (·.f0))) ∘ bkt b) ≤ xs.countP (fun u => decide (u < v)) := List.countP_mono_left fun u hu hle => by
          have hle' := hmem2 i hi_ _ (of_decide_eq_true hle)
          refine decide_eq_true ?_
          rcases Int.lt_or_le u v with h | h
          · exact h
          · exfalso
            obtain ⟨n, rfl⟩ := Int.eq_ofNat_of_zero_le (hx v hv).1
            obtain ⟨m, rfl⟩ := Int.eq_ofNat_of_zero_le (hx u hu).1
            have := bkt_mono P n m (by omega) (by have := (hx _ hu).2; omega)
            omega
        have h5 := hK3 (xs.countP (fun u => decide (u < v)) : Int) (by omega)
        rcases hless with h | h <;> omega
    have := hlims v hv hbv
    exact ⟨this.1, this.2.1⟩
end Go.Proofs.Ytploonojacdflaa.Quant
