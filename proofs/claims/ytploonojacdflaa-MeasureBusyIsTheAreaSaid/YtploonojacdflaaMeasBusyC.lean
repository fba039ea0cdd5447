/- The check of samples answers; where it answers 0, the samples are within its limits. -/
import Derived.Test.YtploonojacdflaaMeasBusyB
namespace Go.Proofs.Ytploonojacdflaa.Busy
open Go.RowKit Go.Proofs.Ytploonojacdflaa Go.Proofs.Ytploonojacdflaa.QMeasureBusyIsTheArea
open Go.Proofs.YtploonojacdflaaW.PrintWords
def Good (s : S45) : Prop := (0 ≤ s.f0 ∧ s.f0 ≤ 1000000000000) ∧ 0 ≤ s.f1 ∧ s.f1 ≤ 1000000000000
def Ans (l : List S45) (i : Nat) (o : Nat → Option Int) : Prop := ∃ k r, o k = some r ∧ (r = 0 → ∀ j, i ≤ j → j < l.length → Good (rd_T45 l (j : Int)))
theorem wr1 (x : Int) (h0 : 0 ≤ x) (h1 : x < 9223372036854775807) : wrap64 (x + 1) = x + 1 := by unfold wrap64; omega
theorem wm1 (x : Int) (h0 : 1 ≤ x) (h1 : x < 9223372036854775807) : wrap64 (x - 1) = x - 1 := by unfold wrap64; omega
theorem l1_ans (l : List S45) (i : Nat) (a b : Int) (ls : List S78) (f : Bool) (hls : ls.length ≤ 9223372036854775807) (hil : i < l.length) (hn : l.length ≤ 20000)
    (hg : Good (rd_T45 l (i : Int))) (h : Ans l (i + 1) fun k => measure_checkSamples.l0 k l (l.length : Int) ((i + 1 : Nat) : Int)) :
    ∀ (d x : Nat), ls.length - x = d → 1 ≤ x → Ans l i fun k => measure_checkSamples.l1 k (x : Int) l (l.length : Int) (i : Int) a b ls f
  | 0, x, hd, hx => by
    obtain ⟨k, r, h1, h2⟩ := h
    refine ⟨k + 1, r, ?_, fun hr j hj hjl => ?_⟩
    · show measure_checkSamples.l1 (k + 1) _ _ _ _ _ _ _ _ = _
      rw [measure_checkSamples.l1, if_neg (by omega), wr1 _ (by omega) (by omega)]
      exact h1
    · by_cases e : j = i
      · subst e; exact hg
      · exact h2 hr j (by omega) hjl
  | d + 1, x, hd, hx => by
    obtain ⟨k, r, h1, h2⟩ := l1_ans l i a b ls f hls hil hn hg h d (x + 1) (by omega) (by omega)
    by_cases hb : (Op.bytesLess (((rd_T78 ls ((x : Int) - 1)).f0).toList) (((rd_T78 ls (x : Int)).f0).toList)) = true
    · refine ⟨k + 1, r, ?_, h2⟩
      show measure_checkSamples.l1 (k + 1) _ _ _ _ _ _ _ _ = _
      rw [measure_checkSamples.l1, if_pos (by omega), if_pos (by omega), wm1 _ (by omega) (by omega), if_pos (by omega), if_pos (by omega), if_pos hb, wr1 _ (by omega) (by omega)]
      exact h1
    · refine ⟨1, 10, ?_, fun hr => absurd hr (by decide)⟩
      show measure_checkSamples.l1 (0 + 1) _ _ _ _ _ _ _ _ = _
      rw [measure_checkSamples.l1, if_pos (by omega), if_pos (by omega), wm1 _ (by omega) (by omega), if_pos (by omega), if_pos (by omega), if_neg hb]
theorem l0_ans (l : List S45) (hn : l.length ≤ 20000) (hls : ∀ s ∈ l, s.f2.length ≤ 9223372036854775807) : ∀ (d i : Nat), l.length - i = d → Ans l i fun k => measure_checkSamples.l0 k l (l.length : Int) (i : Int)
  | 0, i, hd => by
    refine ⟨1, 0, ?_, fun _ j hj hjl => by omega⟩
    show measure_checkSamples.l0 (0 + 1) _ _ _ = _
    rw [measure_checkSamples.l0, if_neg (by omega)]
  | d + 1, i, hd => by
    have ih := l0_ans l hn hls d (i + 1) (by omega)
    have hin : rd_T45 l (i : Int) ∈ l := by simp [rd_T45, List.getD, List.getElem?_eq_getElem (show i < l.length by omega)]
    have hls1 := hls _ hin
    -- what j1 answers
    have bad : ∀ a b c e, measure_checkSamples.j1 1 l (l.length : Int) (i : Int) true a b c e = some 9 := fun a b c e => by
      show measure_checkSamples.j1 (0 + 1) _ _ _ _ _ _ _ _ = _
      rw [measure_checkSamples.j1, if_pos rfl]
    by_cases h0 : (rd_T45 l (i : Int)).f0 < 0
    · refine ⟨2, 9, ?_, fun hr => absurd hr (by decide)⟩
      show measure_checkSamples.l0 (1 + 1) _ _ _ = _
      rw [measure_checkSamples.l0, if_pos (by omega), if_pos (by omega), if_pos (by omega), if_pos h0]
      exact bad _ _ _ _
    · by_cases h1 : (rd_T45 l (i : Int)).f0 > 1000000000000
      · refine ⟨2, 9, ?_, fun hr => absurd hr (by decide)⟩
        show measure_checkSamples.l0 (1 + 1) _ _ _ = _
        rw [measure_checkSamples.l0, if_pos (by omega), if_pos (by omega), if_pos (by omega), if_neg h0, if_pos h1]
        exact bad _ _ _ _
      · by_cases h2 : (rd_T45 l (i : Int)).f1 < 0
        · refine ⟨2, 9, ?_, fun hr => absurd hr (by decide)⟩
          show measure_checkSamples.l0 (1 + 1) _ _ _ = _
          rw [measure_checkSamples.l0, if_pos (by omega), if_pos (by omega), if_pos (by omega), if_neg h0, if_neg h1, if_pos h2]
          exact bad _ _ _ _
        · by_cases h3 : (rd_T45 l (i : Int)).f1 > 1000000000000
          · refine ⟨2, 9, ?_, fun hr => absurd hr (by decide)⟩
            show measure_checkSamples.l0 (1 + 1) _ _ _ = _
            rw [measure_checkSamples.l0, if_pos (by omega), if_pos (by omega), if_pos (by omega), if_neg h0, if_neg h1, if_neg h2, decide_eq_true h3]
            exact bad _ _ _ _
          · have hg : Good (rd_T45 l (i : Int)) := ⟨⟨by omega, by omega⟩, by omega, by omega⟩
            obtain ⟨k, r, h4, h5⟩ := l1_ans l i (rd_T45 l (i : Int)).f0 (rd_T45 l (i : Int)).f1 (rd_T45 l (i : Int)).f2 (rd_T45 l (i : Int)).f3 hls1 (by omega) hn hg ih _ 1 rfl (by omega)
            refine ⟨k + 2, r, ?_, h5⟩
            show measure_checkSamples.l0 (k + 1 + 1) _ _ _ = _
            rw [measure_checkSamples.l0, if_pos (by omega), if_pos (by omega), if_pos (by omega), if_neg h0, if_neg h1, if_neg h2, decide_eq_false h3, measure_checkSamples.j1, if_neg (by decide)]
            exact h4
theorem check_ans (l : List S45) (hls : ∀ s ∈ l, s.f2.length ≤ 9223372036854775807) : ∃ k r, measure_checkSamples.f k l = some r ∧ (r = 0 → l.length ≤ 20000 ∧ ∀ s ∈ l, Good s) := by
  by_cases hn : (l.length : Int) > 20000
  · refine ⟨0, 3, ?_, fun hr => absurd hr (by decide)⟩
    unfold measure_checkSamples.f
    rw [if_pos hn]
  · obtain ⟨k, r, h1, h2⟩ := l0_ans l (by omega) hls _ 0 rfl
    refine ⟨k, r, ?_, fun hr => ⟨by omega, fun s hs => ?_⟩⟩
    · unfold measure_checkSamples.f
      rw [if_neg hn]
      exact h1
    · obtain ⟨j, hj, rfl⟩ := List.getElem_of_mem hs
      have := h2 hr j (by omega) hj
      simpa [rd_T45, List.getD, List.getElem?_eq_getElem hj] using this
end Go.Proofs.Ytploonojacdflaa.Busy
