/- tallyOf: a map of what a histogram counts. Condition: the buckets rise, the counts are those of a list. -/
import Derived.Test.YtlkameeaaplonaaDoorMeasTally
import Derived.Test.YtlkameeaaplonaaDoorMeasE
namespace Go.Proofs.YtlkameeaaplonaaDoor
open Go.Shelf Go.RowKit Go.Maps Go.Proofs.YtlkameeaaplonaaDoor.QMeasureMergeIsTogether
open Go.Proofs.YtlkameeaaplonaaDoorW.PrintWords
/-- Those of bs that stand in the first counts. -/
def firsts (bs : List Int) (l : List S44) : List Int := bs.filter fun y => decide (y ∈ l.map (·.f0))
theorem firsts_nil (bs : List Int) : firsts bs [] = [] := by simp [firsts]
theorem count_firsts (bs : List Int) (l : List S44) (y : Int) : (firsts bs l).count y = if y ∈ l.map (·.f0) then bs.count y else 0 := by
  unfold firsts
  by_cases h : y ∈ l.map (·.f0)
  · rw [if_pos h, List.count_filter (p := fun y => decide (y ∈ l.map (·.f0))) (by exact decide_eq_true h)]
  · rw [if_neg h, List.count_eq_zero]
    intro h2
    exact h (of_decide_eq_true (List.mem_filter.1 h2).2)
theorem countP_mem (a : Int) (t : List Int) (h : a ∉ t) : ∀ bs : List Int, bs.countP (fun y => decide (y ∈ t ++ [a])) = bs.countP (fun y => decide (y ∈ t)) + bs.count a
  | [] => by simp
  | y :: bs => by
    rw [List.countP_cons, List.count_cons, List.countP_cons, countP_mem a t h bs]
    by_cases hy : y = a
    · subst hy
      simp [h]
      omega
    · by_cases ht : y ∈ t
      · simp [hy, ht]
        omega
      · simp [hy, ht]
theorem firsts_len (bs : List Int) (l : List S44) (s : S44) (h : s.f0 ∉ l.map (·.f0)) : (firsts bs (l ++ [s])).length = (firsts bs l).length + bs.count s.f0 := by
  unfold firsts
  rw [← List.countP_eq_length_filter, ← List.countP_eq_length_filter, List.map_append, List.map_cons, List.map_nil, countP_mem _ _ h]
theorem firsts_all {bs : List Int} {l : List S44} (h : IsTally bs l) : firsts bs l = bs := by
  unfold firsts
  rw [List.filter_eq_self]
  intro y hy
  have := (h.mem ⟨y, (bs.count y : Int)⟩).2 ⟨hy, rfl⟩
  exact decide_eq_true (List.mem_map.2 ⟨_, this, rfl⟩)
/-- n more of x. -/
theorem counted_more {D : DataW Unit} {bs cs : List Int} (h : Counted D bs) (x : Int) (n : Nat) (hn : 0 < n) (hc : ∀ y, cs.count y = bs.count y + if y = x then n else 0) (hl : cs.length = bs.length + n)
    (d : Int) (hd : d = (bs.count x : Int) + n) : Counted (D.put (.int .i64 x) (.lit (.int .i64 d))) cs := by
  have hk : WideAt.IsKeyLit (Lit.int .i64 x) := trivial
  have hcont : ∀ y, cs.contains y = (bs.contains y || decide (y = x)) := fun y => by
    have h1 := hc y
    by_cases hy : y = x
    · subst hy
      have : y ∈ cs := List.count_pos_iff.1 (by rw [h1]; simp; omega)
      simp [this]
    · rw [if_neg hy] at h1
      by_cases hb : y ∈ bs
      · have : y ∈ cs := List.count_pos_iff.1 (by rw [h1]; have := List.count_pos_iff.2 hb; omega)
        simp [this, hb]
      · have : y ∉ cs := fun hm => by have := List.count_pos_iff.2 hm; have h2 := List.count_eq_zero.2 hb; omega
        simp [this, hb, hy]
  refine ⟨h.tidy.put hk _, ?_, fun y => ?_, fun y => ?_⟩
  · rw [size_put h.tidy, hl]
    have := h.size
    split <;> omega
  · rw [hcont]
    by_cases hy : y = x
    · subst hy
      rw [has_put_same h.tidy.isMap hk]
      simp
    · rw [has_put_other (by simpa using hy), h.has]
      simp [hy]
  · rw [hc]
    by_cases hy : y = x
    · subst hy
      unfold Go.Proofs.YtlkameeaaplonaaDoor.val
      rw [atKey_put_same h.tidy.isMap hk]
      simp [hd]
    · have hv := h.val y
      unfold Go.Proofs.YtlkameeaaplonaaDoor.val at hv ⊢
      rw [atKey_put_other (by simpa using hy), hv]
      simp [hy]
theorem tally_ahead {bs : List Int} {l : List S44} (hT : IsTally bs l) (k : Nat) (hk : k < l.length) : l[k].f0 ∉ (l.take k).map (·.f0) := fun hmem => by
  obtain ⟨s, hs, he⟩ := List.mem_map.1 hmem
  obtain ⟨q, hq, hqe⟩ := List.mem_iff_getElem.1 hs
  rw [List.length_take] at hq
  rw [List.getElem_take] at hqe
  have := List.pairwise_iff_getElem.1 hT.rising q k (by rw [List.length_map]; omega) (by rw [List.length_map]; omega) (by omega)
  simp only [List.getElem_map] at this
  rw [hqe] at this
  omega
/-- One count more. -/
theorem counted_next {D : DataW Unit} {az bs : List Int} {l : List S44} (hT : IsTally bs l) (k : Nat) (hk : k < l.length) (h : Counted D (az ++ firsts bs (l.take k))) (d : Int)
    (hd : d = ((az ++ firsts bs (l.take k)).count (rd_T44 l (k : Int)).f0 : Int) + (rd_T44 l (k : Int)).f1) :
    Counted (D.put (.int .i64 (rd_T44 l (k : Int)).f0) (.lit (.int .i64 d))) (az ++ firsts bs (l.take (k + 1))) := by
  have hg : rd_T44 l (k : Int) = l[k] := by simp [rd_T44, List.getD, List.getElem?_eq_getElem hk]
  have hm := (hT.mem l[k]).1 (List.getElem_mem hk)
  have hp := List.count_pos_iff.2 hm.1
  have hnot := tally_ahead hT k hk
  have htk : l.take (k + 1) = l.take k ++ [l[k]] := List.take_succ_eq_append_getElem hk
  rw [hg] at hd ⊢
  refine counted_more h l[k].f0 (bs.count l[k].f0) hp (fun y => ?_) ?_ d (by rw [hd, hm.2])
  · rw [List.count_append, List.count_append, count_firsts, count_firsts, htk, List.map_append, List.map_cons, List.map_nil]
    by_cases hy : y = l[k].f0
    · subst hy
      rw [if_pos (List.mem_append.2 (.inr (by simp))), if_neg hnot, if_pos rfl]
      omega
    · rw [if_neg hy]
      by_cases hin : y ∈ (l.take k).map (·.f0)
      · rw [if_pos (List.mem_append.2 (.inl hin)), if_pos hin]
        omega
      · rw [if_neg (fun h => by rcases List.mem_append.1 h with h | h; exact hin h; exact hy (by simpa using h)), if_neg hin]
  · rw [List.length_append, List.length_append, htk, firsts_len _ _ _ hnot]
    omega
theorem ne_some {b : Nat} : some b ≠ (none : Option Nat) := by simp
set_option maxRecDepth 100000 in
set_option maxHeartbeats 4000000 in
theorem tallyOf37 (bits : Int) (A : Option Addr) (c : Nat) (l : List S44) (bs : List Int) (w : World) (hC : Kd.C k44 w A l.length l) (hT : IsTally bs l) (hl : l.length ≤ 20000) (hwf : ∀ s ∈ l, (Lit.int .i64 s.f0).wf = true ∧ (Lit.int .i64 s.f1).wf = true) :
    Calls Tryd.prog 37 #[.agg #[.int .i64 bits, .slice A l.length c]] w fun e w' => ∃ b n D, e = .returned (.map (some b)) ∧ w.heap.size ≤ b ∧ n ≤ 20000 ∧ w'.ownsMap Tryd.prog 3 (plainElem Tryd.prog 3) b n D ∧ Counted D bs ∧ Below w.heap.size w w' := by
  have hmm := @run_makeMap Tryd.prog
  go_enter Tryd.func37, Tryd.ntmps37
  go_wp2
  have em : (w.alloc (.cells #[.int .i64 bits, .slice A l.length c] 25)).heap.size = w.heap.size + 1 := by simp
  go_loopw [10] (fun i wr => ∃ (k : Nat) (D : DataW Unit), k ≤ l.length ∧ i = .int .i64 k ∧ wr.ownsMap Tryd.prog 3 (plainElem Tryd.prog 3) (w.heap.size + 1) k D ∧ Counted D (firsts bs (l.take k)) ∧ Below w.heap.size w wr)
    (fun i _ => l.length - (intOf i).toNat)
  case atStart =>
    refine ⟨0, .map [], Nat.zero_le _, rfl, ?_, ?_, ?_⟩
    · have := World.ownsMap_made (w.alloc (.cells #[.int .i64 bits, .slice A l.length c] 25)) Tryd.prog 3 (plainElem (H := Unit) Tryd.prog 3)
      rwa [em] at this
    · rw [List.take_zero, firsts_nil]
      exact counted_nil
    · exact ((Below.refl w.heap.size w).alloc (Nat.le_refl _) _).alloc (by simp) _
  case round =>
    obtain ⟨k, D, hk, rfl, hown, hcnt, hB⟩ := hrel
    have hbl := hown.lt
    by_cases hlt : k < l.length
    · have hd : decide ((k : Int) < (l.length : Int)) = true := decide_eq_true (by omega)
      obtain ⟨ad, rfl, q0, q1⟩ := at_T44 (Kd.C_below hC hB) (k : Int) (by omega) (by omega)
      rw [Int.toNat_natCast] at q0 q1
      have hin : rd_T44 l (k : Int) ∈ l := by simp [rd_T44, List.getD, List.getElem?_eq_getElem hlt]
      have hw0 := hwf _ hin
      have hz : ((firsts bs (l.take k)).count (rd_T44 l (k : Int)).f0 : Int) = 0 := by
        have hg : rd_T44 l (k : Int) = l[k] := by simp [rd_T44, List.getD, List.getElem?_eq_getElem hlt]
        rw [count_firsts, if_neg]
        · rfl
        · rw [hg]
          exact tally_ahead hT k hlt
      have hnext := counted_next (az := []) hT k hlt (by rwa [List.nil_append]) (rd_T44 l (k : Int)).f1 (by rw [List.nil_append, hz, Int.zero_add])
      rw [List.nil_append] at hnext
      have hkm : k < maxLen := by
        have : (20000 : Nat) < maxLen := by decide
        omega
      clear hin hz
      have HN := Aside0.mk hnext
      clear hnext
      generalize rd_T44 l (k : Int) = s at q0 q1 hw0 HN
      have hown' := hown.alloc (.cells #[.int .i64 s.f0, .int .i64 s.f1] 44)
      have hB' := hB.alloc hB.size (.cells #[.int .i64 s.f0, .int .i64 s.f1] 44)
      go_wp2_with (first
        | (at_mapUpdate; refine wpList_mapUpdate_own _ rfl _ _ _ 58 rfl 3 3 law3 Tryd.underlying58 _ (w.heap.size + 1) k _ rfl hown' hkm _ _ _ rfl rfl (keyOf_int_mk Tryd.underlying3 hw0.1) _ [] (plainElem_int Tryd.underlying3 hw0.2) ?_; intro w1 hown1 hgrow1)
        | go_in)
      have hgr : (wr.alloc (.cells #[.int .i64 s.f0, .int .i64 s.f1] 44)).grownBy w1 (some (w.heap.size + 1)) := ⟨hgrow1.os, hgrow1.tape, hgrow1.output, hgrow1.size, hgrow1.block⟩
      exact ⟨⟨k + 1, _, by omega, by simp, hown1, HN.out, hB'.grown hgr (by simp; omega) (fun j hj => by have := Option.some.inj hj; omega)⟩, by simp [intOf]; omega⟩
    · have hke : k = l.length := by omega
      subst hke
      rw [List.take_length, firsts_all hT] at hcnt
      go_wp2
      go_ret
      exact ⟨_, _, D, rfl, by omega, hl, hown, hcnt, hB⟩
end Go.Proofs.YtlkameeaaplonaaDoor
