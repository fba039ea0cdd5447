/- What Check and total reckon of a tally; the bucket of a value. -/
import Derived.Test.YtlkameeaaplonaaDoorMrgA
namespace Go.Proofs.YtlkameeaaplonaaDoor
open Go.RowKit Go.Proofs.YtlkameeaaplonaaDoor.QMeasureMergeIsTogether Go.Proofs.YtlkameeaaplonaaDoorW.PrintWords Go.Proofs.YtlkameeaaplonaaDoorW.PrintLast Go.Proofs.YtlkameeaaplonaaDoorW.PrintMore
set_option linter.unusedVariables false
set_option linter.unusedSimpArgs false
/-- How many are ahead. -/
def ahead : List S44 → Int
  | [] => 0
  | s :: r => s.f1 + ahead r
theorem ahead_snoc (s : S44) : ∀ l : List S44, ahead (l ++ [s]) = ahead l + s.f1
  | [] => by simp [ahead]
  | x :: r => by
    simp only [List.cons_append, ahead, ahead_snoc s r]
    omega
theorem ahead_bound (l : List S44) (h : ∀ s ∈ l, 0 ≤ s.f1 ∧ s.f1 ≤ 20000) : 0 ≤ ahead l ∧ ahead l ≤ 20000 * l.length := by
  induction l with
  | nil => simp [ahead]
  | cons s r ih =>
    have := ih (fun t ht => h t (by simp [ht]))
    have := h s (by simp)
    simp only [ahead, List.length_cons]
    push_cast
    omega
theorem ahead_succ {l : List S44} {k : Nat} (h : k < l.length) : ahead (l.take (k + 1)) = ahead (l.take k) + (rd_T44 l (k : Int)).f1 := by
  have htk : l.take (k + 1) = l.take k ++ [rd_T44 l (k : Int)] := by
    rw [List.take_succ_eq_append_getElem h]
    simp [rd_T44, List.getD, List.getElem?_eq_getElem h]
  rw [htk, ahead_snoc]
theorem rd_bound {l : List S44} (hb : ∀ s ∈ l, 0 ≤ s.f1 ∧ s.f1 ≤ 20000) (k : Nat) : 0 ≤ (rd_T44 l (k : Int)).f1 ∧ (rd_T44 l (k : Int)).f1 ≤ 20000 := by
  by_cases h : k < l.length
  · exact hb _ (by simp [rd_T44, List.getD, List.getElem?_eq_getElem h])
  · have : rd_T44 l (k : Int) = z44 := by simp [rd_T44, List.getD, List.getElem?_eq_none (Nat.le_of_not_lt h)]
    rw [this]
    decide
theorem take_bound {l : List S44} (hl : l.length ≤ 20000) (hb : ∀ s ∈ l, 0 ≤ s.f1 ∧ s.f1 ≤ 20000) (k : Nat) : 0 ≤ ahead (l.take k) ∧ ahead (l.take k) ≤ 400000000 := by
  have hab := ahead_bound (l.take k) (fun s hs => hb s (List.mem_of_mem_take hs))
  rw [List.length_take] at hab
  omega
/-- The total of the counts. -/
theorem total_eq (bits : Int) (l : List S44) (hl : l.length ≤ 20000) (hb : ∀ s ∈ l, 0 ≤ s.f1 ∧ s.f1 ≤ 20000) : measure_total.f (l.length + 1) bits l = some (ahead l) := by
  have key : ∀ (d i : Nat), i + d = l.length → measure_total.l0 (d + 1) (ahead (l.take i)) l (l.length : Int) (i : Int) = some (ahead l) := by
    intro d
    induction d with
    | zero =>
      intro i hi
      rw [measure_total.l0, if_neg (by omega), List.take_of_length_le (by omega)]
    | succ d ih =>
      intro i hi
      have h1 := rd_bound hb i
      have h2 := take_bound hl hb i
      rw [measure_total.l0, if_pos (by omega), if_pos (by omega), if_pos (by omega), w64 (by omega) (by omega), w64 (by omega) (by omega), ← ahead_succ (by omega)]
      exact ih (i + 1) (by omega)
  exact key l.length 0 (by omega)
/-- Rising counts in good buckets: Check finds nothing. -/
theorem check_eq (b : Nat) (h2 : 2 ≤ b) (h8 : b ≤ 8) (l : List S44) (hl : l.length ≤ 20000) (hb : ∀ s ∈ l, 1 ≤ s.f1 ∧ s.f1 ≤ 20000) (hr : (l.map (·.f0)).Pairwise (· < ·))
    (hv : ∀ s ∈ l, ∃ a : Nat, s.f0 = (a : Int) ∧ a ≤ (50 - b) * 2 ^ (b - 1) + (2 * 2 ^ (b - 1) - 1)) : measure_Check.f (2 * l.length + 2) (b : Int) l = some 0 := by
  have P := par_of b h2 h8
  have hb0 : ∀ s ∈ l, 0 ≤ s.f1 ∧ s.f1 ≤ 20000 := fun s hs => ⟨by have := hb s hs; omega, (hb s hs).2⟩
  have hget : ∀ i (h : i < l.length), rd_T44 l (i : Int) = l[i] := fun i h => by simp [rd_T44, List.getD, List.getElem?_eq_getElem h]
  have hmono : ∀ i, i + 1 < l.length → (rd_T44 l (i : Int)).f0 < (rd_T44 l ((i + 1 : Nat) : Int)).f0 := fun i h => by
    rw [hget i (by omega), hget (i + 1) h]
    have := List.pairwise_iff_getElem.1 hr i (i + 1) (by rw [List.length_map]; omega) (by rw [List.length_map]; omega) (by omega)
    simpa using this
  have key : ∀ (d i : Nat), i + d = l.length → measure_Check.l0 (2 * d + 2) (ahead (l.take i)) l (l.length : Int) (i : Int) (b : Int) l = some 0 := by
    intro d
    induction d with
    | zero =>
      intro i hi
      have h2' := take_bound hl hb0 i
      rw [measure_Check.l0, if_neg (by omega), if_neg (by omega)]
    | succ d ih =>
      intro i hi
      have hin : rd_T44 l (i : Int) ∈ l := by rw [hget i (by omega)]; exact List.getElem_mem _
      have h1 := hb _ hin
      have h3 := take_bound hl hb0 i
      obtain ⟨a, ha, hav⟩ := hv _ hin
      have hsucc := ahead_succ (l := l) (k := i) (by omega)
      rw [show 2 * (d + 1) + 2 = 2 * d + 2 + 1 + 1 from by omega, measure_Check.l0, if_pos (by omega), if_pos (by omega), if_pos (by omega), ha, formP P a (2 * d + 2), Option.bind_some, decide_eq_true hav, if_pos rfl]
      have hj : measure_Check.j1 (2 * d + 2 + 1) (ahead (l.take i)) l (l.length : Int) (i : Int) false (b : Int) l (a : Int) (rd_T44 l (i : Int)).f1 = some 0 := by
        rw [measure_Check.j1, if_neg (by decide), if_neg (by omega), if_neg (by omega), w64 (by omega) (by omega), w64 (by omega) (by omega), ← hsucc]
        exact ih (i + 1) (by omega)
      by_cases hi0 : i = 0
      · subst hi0
        rw [if_neg (by decide)]
        exact hj
      · rw [if_pos (by omega), w64 (n := (i : Int) - 1) (by omega) (by omega), if_pos (by omega), if_pos (by omega)]
        have hm := hmono (i - 1) (by omega)
        rw [show i - 1 + 1 = i from by omega, ha, show ((i - 1 : Nat) : Int) = (i : Int) - 1 from by omega] at hm
        rw [decide_eq_false (by omega)]
        exact hj
  unfold measure_Check.f
  rw [mform, decide_eq_true (by omega), Option.bind_some, if_pos rfl]
  exact key l.length 0 (by omega)
theorem check_none : measure_Check.f 1 0 [] = some 9 := by
  unfold measure_Check.f
  rw [mform]
  rfl
/-- The bucket of a value. -/
def bkt (b : Nat) (v : Int) : Int := (measure_bucket.f 1 (b : Int) v).getD 0
section
variable {b p J : Nat} (P : Par b p J)
include P
theorem bkt_lo (v : Nat) (hv : v < 2 * p) : bkt b (v : Int) = (v : Int) := by
  unfold bkt
  rw [bucket_lo P v 1 hv]
  rfl
theorem bkt_hi (v j : Nat) (h1 : p * 2 ^ (j + 1) ≤ v) (h2 : v < 2 * p * 2 ^ (j + 1)) (hv : v < 1125899906842624) : bkt b (v : Int) = (((j + 1) * p + v / 2 ^ (j + 1) : Nat) : Int) := by
  unfold bkt
  rw [bucket_hi P v j 0 h1 h2 hv]
  rfl
theorem bkt_spec (v : Nat) (hv : v < 1125899906842624) : measure_bucket.f 1 (b : Int) (v : Int) = some (bkt b (v : Int)) ∧ ∃ a : Nat, bkt b (v : Int) = (a : Int) ∧ a ≤ J * p + (2 * p - 1) := by
  rcases value_cases P v hv with h0 | ⟨j, h1, h2, hj⟩
  · exact ⟨by rw [bkt_lo P v h0]; exact bucket_lo P v 1 h0, v, bkt_lo P v h0, lo_valid h0⟩
  · obtain ⟨hj50, hm1, hm2⟩ := dbl_facts P h1 h2 hv
    have e0 : p + (v / 2 ^ (j + 1) - p) = v / 2 ^ (j + 1) := by omega
    have ht : v / 2 ^ (j + 1) - p < p := by omega
    have hval := (valid_iff P ht).2 hj
    rw [e0] at hval
    exact ⟨by rw [bkt_hi P v j h1 h2 hv]; exact bucket_hi P v j 0 h1 h2 hv, _, bkt_hi P v j h1 h2 hv, hval⟩
end
theorem countP_mem2 (a : Int) (t : List Int) (h : a ∉ t) : ∀ bs : List Int, bs.countP (fun y => decide (y ∈ a :: t)) = bs.count a + bs.countP (fun y => decide (y ∈ t))
  | [] => by simp
  | y :: bs => by
    rw [List.countP_cons, List.count_cons, List.countP_cons, countP_mem2 a t h bs]
    by_cases hy : y = a
    · subst hy
      simp [h]
      omega
    · by_cases ht : y ∈ t
      · simp [hy, ht]
        omega
      · simp [hy, ht]
theorem ahead_count (bs : List Int) : ∀ r : List S44, (r.map (·.f0)).Pairwise (· < ·) → (∀ s ∈ r, s.f1 = (bs.count s.f0 : Int)) → ahead r = (bs.countP (fun y => decide (y ∈ r.map (·.f0))) : Int)
  | [], _, _ => by
    have : bs.countP (fun y => decide (y ∈ ([] : List S44).map (·.f0))) = 0 := by simp
    rw [this]
    rfl
  | s :: r, hp, hm => by
    rw [List.map_cons, List.pairwise_cons] at hp
    have hn : s.f0 ∉ r.map (·.f0) := fun h => by have := hp.1 _ h; omega
    rw [List.map_cons, countP_mem2 _ _ hn]
    show s.f1 + ahead r = _
    rw [ahead_count bs r hp.2 (fun t ht => hm t (by simp [ht])), hm s (by simp)]
    omega
theorem tally_pos {bs : List Int} {l : List S44} (h : IsTally bs l) (hn : bs.length ≤ 20000) : ∀ s ∈ l, 1 ≤ s.f1 ∧ s.f1 ≤ 20000 := fun s hs => by
  obtain ⟨h1, h2⟩ := (h.mem s).1 hs
  have h3 := List.count_pos_iff.2 h1
  have h4 := List.count_le_length (a := s.f0) (l := bs)
  omega
theorem tally_all {bs : List Int} {l : List S44} (h : IsTally bs l) : ahead l = (bs.length : Int) := by
  rw [ahead_count bs l h.rising (fun s hs => ((h.mem s).1 hs).2)]
  congr 1
  rw [List.countP_eq_length]
  intro y hy
  have := (h.mem ⟨y, (bs.count y : Int)⟩).2 ⟨hy, rfl⟩
  exact decide_eq_true (List.mem_map.2 ⟨_, this, rfl⟩)
theorem ahead_ge : ∀ l : List S44, (∀ s ∈ l, 1 ≤ s.f1) → (l.length : Int) ≤ ahead l
  | [], _ => by simp [ahead]
  | s :: r, h => by
    have := ahead_ge r (fun t ht => h t (by simp [ht]))
    have := h s (by simp)
    simp only [ahead, List.length_cons]
    omega
theorem tally_len {bs : List Int} {l : List S44} (h : IsTally bs l) : l.length ≤ bs.length := by
  have h1 := ahead_ge l (fun s hs => by
    obtain ⟨h1, h2⟩ := (h.mem s).1 hs
    have h3 := List.count_pos_iff.2 h1
    omega)
  have h2 := tally_all h
  omega
end Go.Proofs.YtlkameeaaplonaaDoor
