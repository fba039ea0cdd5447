/- Merge: the histogram of both lists together. Conditions: both are tallies of short lists, right and with the same bits. -/
import Derived.Test.YtlkameeaaplonaaDoorMrgB
namespace Go.Proofs.YtlkameeaaplonaaDoor
open Go.Shelf Go.RowKit Go.Maps Go.Proofs.YtlkameeaaplonaaDoor.QMeasureMergeIsTogether
open Go.Proofs.YtlkameeaaplonaaDoorW.PrintWords
set_option maxRecDepth 100000 in
set_option maxHeartbeats 4000000 in
theorem merge17 (bits bits2 : Int) (A A2 : Option Addr) (c c2 k0 k1 k2 : Nat) (l l2 : List S44) (bs bs2 : List Int) (w : World) (hC : Kd.C k44 w A l.length l) (hc : l.length ≤ c) (hC2 : Kd.C k44 w A2 l2.length l2) (hc2 : l2.length ≤ c2)
    (hT : IsTally bs l) (hT2 : IsTally bs2 l2) (hl : l.length ≤ 20000) (hl2 : l2.length ≤ 20000) (hn : bs.length + bs2.length ≤ 1000000)
    (hwf : ∀ s ∈ l, (Lit.int .i64 s.f0).wf = true ∧ (Lit.int .i64 s.f1).wf = true) (hwf2 : ∀ s ∈ l2, (Lit.int .i64 s.f0).wf = true ∧ (Lit.int .i64 s.f1).wf = true)
    (hchk : measure_checkBoth.f k0 bits l bits2 l2 = some 0) (ht : measure_total.f k1 bits l = some (bs.length : Int)) (ht2 : measure_total.f k2 bits2 l2 = some (bs2.length : Int)) :
    Calls Tryd.prog 17 #[.agg #[.int .i64 bits, .slice A l.length c], .agg #[.int .i64 bits2, .slice A2 l2.length c2]] w fun e w' => ∃ v r, e = .returned (.tuple #[.agg #[.int .i64 bits, v], .int .i64 0]) ∧
      Kd.V k44 44 w' w.heap.size (fun k => w.heap.size ≤ k) v r ∧ Below w.heap.size w w' ∧ IsTally (bs ++ bs2) r := by
  obtain ⟨W0, hW0⟩ : ∃ W0, ((w.alloc (.cells #[.int .i64 bits, .slice A l.length c] 25)).alloc (.cells #[.int .i64 bits2, .slice A2 l2.length c2] 25)).alloc (.cells #[.int .i64 0, .slice none 0 0] 25) = W0 := ⟨_, rfl⟩
  have hB0 : Below w.heap.size w W0 := by rw [← hW0]; exact (((Below.refl _ w).alloc (Nat.le_refl _) _).alloc (by simp) _).alloc (by simp; omega) _
  have hs0 : W0.heap.size = w.heap.size + 3 := by rw [← hW0]; simp
  have b0 : W0.heap[w.heap.size]? = some (.cells #[.int .i64 bits, .slice A l.length c] 25 (0, 0)) := by rw [← hW0]; exact (Below.heap_alloc _ _ _ (by simp; omega)).trans ((Below.heap_alloc _ _ _ (by simp)).trans (heap_alloc_new w _))
  have b1 : W0.heap[w.heap.size + 1]? = some (.cells #[.int .i64 bits2, .slice A2 l2.length c2] 25 (0, 0)) := by rw [← hW0]; exact (Below.heap_alloc _ _ _ (by simp)).trans (by have := heap_alloc_new (w.alloc (.cells #[.int .i64 bits, .slice A l.length c] 25)) (.cells #[.int .i64 bits2, .slice A2 l2.length c2] 25); simpa using this)
  have b2 : W0.heap[w.heap.size + 2]? = some (.cells #[.int .i64 0, .slice none 0 0] 25 (0, 0)) := by rw [← hW0]; have := heap_alloc_new ((w.alloc (.cells #[.int .i64 bits, .slice A l.length c] 25)).alloc (.cells #[.int .i64 bits2, .slice A2 l2.length c2] 25)) (.cells #[.int .i64 0, .slice none 0 0] 25); simpa using this
  have hfr : ∀ W : World, Below W0.heap.size W0 W → (W.cell? ⟨w.heap.size, 0, none⟩ = some (.int .i64 bits) ∧ W.cell? ⟨w.heap.size, 1, none⟩ = some (.slice A l.length c)) ∧ (W.cell? ⟨w.heap.size + 1, 0, none⟩ = some (.int .i64 bits2) ∧ W.cell? ⟨w.heap.size + 1, 1, none⟩ = some (.slice A2 l2.length c2)) ∧ Below W0.heap.size W0 W := fun W h => by
    have c0 := (h.block _ (by omega)).trans b0
    have c1 := (h.block _ (by omega)).trans b1
    exact ⟨⟨by simp only [World.cell?, c0]; rfl, by simp only [World.cell?, c0]; rfl⟩, ⟨by simp only [World.cell?, c1]; rfl, by simp only [World.cell?, c1]; rfl⟩, h⟩
  have hCa := Kd.C_below hC hB0
  have hCb := Kd.C_below hC2 hB0
  have hcb := measure_checkBoth.calls k0 bits A c l bits2 A2 c2 l2 0 W0 hCa hc hCb hc2 hchk
  obtain ⟨⟨f0, f1⟩, ⟨f2, f3⟩, -⟩ := hfr W0 (Below.refl _ _)
  go_enter Tryd.func17, Tryd.ntmps17
  go_wp2_with (first
    | (go_at_call 44; refine hm.mono ?_; rintro e w2 ⟨v, r, rfl, hV, hB2, hT3⟩; have hB12 := hB1.trans (Below.mono hB2 hB1.size); have e0 := (hB12.block _ (by omega)).trans b2; obtain ⟨A4, c4, rfl⟩ := Kd.V_slice hV; have hc00 : w2.cell? ⟨w.heap.size + 1 + 1, 0, none⟩ = some (.int .i64 0) := (by simp [World.cell?, e0]); have hc01 : w2.cell? ⟨w.heap.size + 1 + 1, 1, none⟩ = some (.slice none 0 0) := (by simp [World.cell?, e0]); have hf40 : w2.frozen? ⟨w.heap.size + 1 + 1, 0, none⟩ = false := (by simp [World.frozen?, e0]); have hf41 : w2.frozen? ⟨w.heap.size + 1 + 1, 1, none⟩ = false := (by simp [World.frozen?, e0]))
    | (go_at_call 43; refine hcb.mono ?_; clear hcb f0 f1 f2 f3; rintro e w1 ⟨rfl, hB1⟩; obtain ⟨⟨f0, f1⟩, ⟨f2, f3⟩, -⟩ := hfr w1 hB1; have hm := merge44 bits bits2 A A2 c c2 k1 k2 l l2 bs bs2 w1 (Kd.C_below hCa hB1) hc (Kd.C_below hCb hB1) hc2 hT hT2 hl hl2 hn hwf hwf2 ht ht2)
    | go_in)
  have hs1 := hB1.size
  have hs2 := hB2.size
  have g0 := heap_setCell_same _ (w.heap.size + 2) 0 _ 25 (.int .i64 bits) e0
  have g1 := heap_setCell_same _ (w.heap.size + 2) 1 _ 25 (.slice A4 r.length c4) g0
  (try simp only [Exit.inBlock, Exit.then])
  refine bodyPost_ret (results_ct rfl _ _ (w.heap.size + 2) 25 #[.int .i64 bits, .slice A4 r.length c4] (0, 0) _ rfl (by simpa using g1) Tryd.underlying25 rfl (by kernel_rfl)) rfl ?_
  refine ⟨_, _, rfl, ?_, ?_, hT3⟩
  · exact Kd.V_mono (Kd.V_far (Kd.V_far hV (p := ⟨w.heap.size + 2, 0, none⟩) (fun k hk e => by have e' : k = w.heap.size + 2 := e; omega) _) (p := ⟨w.heap.size + 2, 1, none⟩) (fun k hk e => by have e' : k = w.heap.size + 2 := e; omega) _) (fun k hk => by omega)
  · exact ((hB0.trans ((Below.mono hB1 (by omega)).trans (Below.mono hB2 (by omega)))).setCell (p := ⟨w.heap.size + 2, 0, none⟩) (by simp) _).setCell (p := ⟨w.heap.size + 2, 1, none⟩) (by simp) _
end Go.Proofs.YtlkameeaaplonaaDoor
