/- Quantile: what is refused. -/
import Derived.Test.YtploonojacdflaaMeqQB
namespace Go.Proofs.Ytploonojacdflaa.Quant
open Go.RowKit Go.Shelf Go.Proofs.Ytploonojacdflaa.QMeasureQuantileBrackets
open Go.Proofs.YtploonojacdflaaW.PrintWords
attribute [local go_sem] Oper.semAt_some
set_option maxRecDepth 100000 in
set_option maxHeartbeats 4000000 in
/-- Quantile where num and den are no quotient, or where there is nothing. -/
theorem quant_err (k : Nat) (bits num den r : Int) (A : Option Addr) (c : Nat) (l : List S53) (w : World) (hr : Kd.C k53 w A l.length l) (hc : l.length ≤ c) (hchk : measure_Check.f k bits l = some 0)
    (h0 : (decide (num < 0) = true ∧ r = 9) ∨ (decide (num < 0) = false ∧ decide (den < num) = true ∧ r = 9) ∨ (decide (num < 0) = false ∧ decide (den < num) = false ∧ decide (den < 1) = true ∧ r = 9) ∨
      (decide (num < 0) = false ∧ decide (den < num) = false ∧ decide (den < 1) = false ∧ decide (1000000 < den) = true ∧ r = 9) ∨ (decide (num < 0) = false ∧ decide (den < num) = false ∧ decide (den < 1) = false ∧ decide (1000000 < den) = false ∧ l.length = 0 ∧ r = 13)) :
    Calls Try.prog 12 #[.agg #[.int .i64 bits, .slice A l.length c], .int .i64 num, .int .i64 den] w fun e w' => e = .returned (.tuple #[.int .i64 0, .int .i64 0, .int .i64 r]) ∧ Below w.heap.size w w' := by
  refine (callsIn_wide (n := 3)).1 ?_
  refine callsIn_of_wp_marks Try.func12 rfl trivial ?_ rfl
  simp only [Try.ntmps12, List.size_toArray, List.length_cons, List.length_nil, Nat.reduceAdd, Nat.reduceSub, Array.replicate_succ, Array.replicate_zero, List.push_toArray, List.append_toArray, List.nil_append, List.cons_append]
  have hB3 : Below w.heap.size w (((w.alloc (.cells #[.int .i64 bits, .slice A l.length c] 32)).alloc (.cells #[.int .i64 0] 3)).alloc (.cells #[.int .i64 0] 3)) := (((Below.refl _ w).alloc (Nat.le_refl _) _).alloc (by simp) _).alloc (by simp; omega) _
  have e3 : (((w.alloc (.cells #[.int .i64 bits, .slice A l.length c] 32)).alloc (.cells #[.int .i64 0] 3)).alloc (.cells #[.int .i64 0] 3)).heap.size = w.heap.size + 3 := by simp
  have b0 : (((w.alloc (.cells #[.int .i64 bits, .slice A l.length c] 32)).alloc (.cells #[.int .i64 0] 3)).alloc (.cells #[.int .i64 0] 3)).heap[w.heap.size]? = some (.cells #[.int .i64 bits, .slice A l.length c] 32 (0, 0)) := (Below.heap_alloc _ _ _ (by simp; omega)).trans ((Below.heap_alloc _ _ _ (by simp)).trans (heap_alloc_new w _))
  have b1 : (((w.alloc (.cells #[.int .i64 bits, .slice A l.length c] 32)).alloc (.cells #[.int .i64 0] 3)).alloc (.cells #[.int .i64 0] 3)).heap[w.heap.size + 1]? = some (.cells #[.int .i64 0] 3 (0, 0)) := (Below.heap_alloc _ _ _ (by simp)).trans (by have := heap_alloc_new (w.alloc (.cells #[.int .i64 bits, .slice A l.length c] 32)) (.cells #[.int .i64 0] 3); simpa using this)
  have b2 : (((w.alloc (.cells #[.int .i64 bits, .slice A l.length c] 32)).alloc (.cells #[.int .i64 0] 3)).alloc (.cells #[.int .i64 0] 3)).heap[w.heap.size + 2]? = some (.cells #[.int .i64 0] 3 (0, 0)) := by have := heap_alloc_new ((w.alloc (.cells #[.int .i64 bits, .slice A l.length c] 32)).alloc (.cells #[.int .i64 0] 3)) (.cells #[.int .i64 0] 3); simpa using this
  have hcall := fun (hW : Kd.C k53 (((w.alloc (.cells #[.int .i64 bits, .slice A l.length c] 32)).alloc (.cells #[.int .i64 0] 3)).alloc (.cells #[.int .i64 0] 3)) A l.length l) => measure_Check.calls k bits A c l 0 _ hW hc hchk
  replace hcall := hcall (Kd.C_below hr hB3)
  rcases h0 with ⟨d1, rfl⟩ | ⟨d1, d2, rfl⟩ | ⟨d1, d2, d3, rfl⟩ | ⟨d1, d2, d3, d4, rfl⟩ | ⟨d1, d2, d3, d4, d5, rfl⟩
  all_goals
    try (have d6 : ((l.length : Int) == 0) = true := by simp [d5]
         clear d5)
    gi_wp2_with (refine ⟨trivial, ?_⟩; gi_at_call 24; refine (callsIn_wide.2 hcall).mono ?_; rintro e w1 ⟨rfl, hB⟩; rw [e3] at hB; have c0 := (hB.block _ (by omega)).trans b0; have c1 := (hB.block _ (by omega)).trans b1; have c2 := (hB.block _ (by omega)).trans b2; have k0 : w1.cell? ⟨w.heap.size, 1, none⟩ = some (.slice A l.length c) := (by simp only [World.cell?, c0]; rfl); have k1 : w1.cell? ⟨w.heap.size + 1, 0, none⟩ = some (.int .i64 0) := (by simp only [World.cell?, c1]; rfl); have k2 : w1.cell? ⟨w.heap.size + 1 + 1, 0, none⟩ = some (.int .i64 0) := (by simp only [World.cell?, c2]; rfl); have f1 : w1.frozen? ⟨w.heap.size + 1, 0, none⟩ = false := (by simp only [World.frozen?, c1]; rfl); have f2 : w1.frozen? ⟨w.heap.size + 1 + 1, 0, none⟩ = false := (by simp only [World.frozen?, c2]; rfl))
    have hs1 := hB.size
    have g1 := (heap_setCell_other _ ⟨w.heap.size + 1 + 1, 0, none⟩ (w.heap.size + 1) (.int .i64 0) (by simp)).trans (heap_setCell_same w1 (w.heap.size + 1) 0 _ 3 (.int .i64 0) c1)
    have g2 := heap_setCell_same _ (w.heap.size + 2) 0 _ 3 (.int .i64 0) ((heap_setCell_other w1 ⟨w.heap.size + 1, 0, none⟩ (w.heap.size + 2) (.int .i64 0) (by simp)).trans c2)
    have m1 : ((w1.setCell ⟨w.heap.size + 1, 0, none⟩ (.int .i64 0)).setCell ⟨w.heap.size + 1 + 1, 0, none⟩ (.int .i64 0)).cell? ⟨w.heap.size + 1, 0, none⟩ = some (.int .i64 0) := by simp only [World.cell?, g1]; rfl
    have m2 : ((w1.setCell ⟨w.heap.size + 1, 0, none⟩ (.int .i64 0)).setCell ⟨w.heap.size + 1 + 1, 0, none⟩ (.int .i64 0)).cell? ⟨w.heap.size + 1 + 1, 0, none⟩ = some (.int .i64 0) := by
      have e : (w.heap.size + 1 + 1) = w.heap.size + 2 := rfl
      simp only [e, World.cell?, g2]
      rfl
    refine ⟨.tuple #[.int .i64 0, .int .i64 0, .int .i64 _], ?_, rfl, ?_⟩
    · generalize ((w1.setCell ⟨w.heap.size + 1, 0, none⟩ (.int .i64 0)).setCell ⟨w.heap.size + 1 + 1, 0, none⟩ (.int .i64 0)) = wz at m1 m2
      simp [results, Try.f12, go_sem, m1, m2]
    · exact ((hB3.trans (Below.mono hB (by omega))).setCell (p := ⟨w.heap.size + 1, 0, none⟩) (by simp) _).setCell (p := ⟨w.heap.size + 1 + 1, 0, none⟩) (by simp; omega) _
end Go.Proofs.Ytploonojacdflaa.Quant
