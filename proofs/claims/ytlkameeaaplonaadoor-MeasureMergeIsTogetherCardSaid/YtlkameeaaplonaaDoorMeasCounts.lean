/- counts answers true. Condition: none. -/
import Derived.Test.YtlkameeaaplonaaDoorMeasTally
namespace Go.Proofs.YtlkameeaaplonaaDoor
open Go.Shelf Go.RowKit Go.Maps Go.Proofs.YtlkameeaaplonaaDoor.QMeasureMergeIsTogether
open Go.Proofs.YtlkameeaaplonaaDoorW.PrintWords
theorem bucket3 : ∀ x ∈ ([5, 1, 4] : List Int), measure_bucket.f 3 2 x = some (bk3 x) := by
  intro x hx
  simp only [List.mem_cons, List.not_mem_nil, or_false] at hx
  rcases hx with rfl | rfl | rfl <;> kernel_rfl
set_option maxRecDepth 100000 in
set_option maxHeartbeats 4000000 in
theorem counts10 (w : World) : Calls Tryd.prog 16 #[] w fun e w' => e = .returned (.bool true) ∧ Below w.heap.size w w' := by
  have hC0 : Kd.C (Kd.int .i64) (w.alloc (.cells #[.int .i64 5, .int .i64 1, .int .i64 4] 3)) (some ⟨w.heap.size, 0, none⟩) 3 [5, 1, 4] := by
    have h := World.ownsRow_lit (base := 0) (e := 3) (size := 1) w #[.int .i64 5, .int .i64 1, .int .i64 4] 3 (Nat.zero_le _) (by decide) rfl
    exact (C_own (xs := [5, 1, 4]) (B := 0) ⟨h, by decide⟩).2.2
  go_enter Tryd.func16, Tryd.ntmps16
  go_wp2_with (first
    | (go_at_call 12; refine (Of11 2 3 bk3 (some ⟨w.heap.size, 0, none⟩) 3 3 [5, 1, 4] _ hC0 (by decide) bucket3 (by decide)).mono ?_; rintro e w4 ⟨v4, r4, rfl, hV4, hB4, ht4⟩; obtain rfl := tally_unique ht4 tally3; obtain ⟨A4, c4, rfl⟩ := Kd.V_slice hV4; obtain ⟨ad, rfl, q0, q1⟩ := at_T44 (Kd.C_below (Kd.V_reads' hV4).2.2 ((Below.refl _ w4).alloc (Nat.le_refl _) (.cells #[.int .i64 2, .slice A4 2 c4] 25))) 1 (by decide) (by decide); have q0' : (w4.alloc (.cells #[.int .i64 2, .slice (some ad) 2 c4] 25)).cell? ⟨ad.block, ad.off + 2, none⟩ = some (.int .i64 4) := q0; have q1' : (w4.alloc (.cells #[.int .i64 2, .slice (some ad) 2 c4] 25)).cell? ⟨ad.block, ad.off + 2 + 1, none⟩ = some (.int .i64 2) := q1)
    | go_in)
  go_ret
  refine ⟨rfl, ?_⟩
  have hB0 : Below w.heap.size w (w.alloc (.cells #[.int .i64 5, .int .i64 1, .int .i64 4] 3)) := (Below.refl _ _).alloc (Nat.le_refl _) _
  have hB1 := hB0.trans (Below.mono hB4 (by simp))
  exact hB1.alloc hB1.size _
end Go.Proofs.YtlkameeaaplonaaDoor
