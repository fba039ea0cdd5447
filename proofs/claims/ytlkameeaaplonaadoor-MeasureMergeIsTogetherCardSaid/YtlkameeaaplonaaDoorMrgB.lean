/- merge: the histogram of both lists together. Conditions: both are tallies of short lists. -/
import Derived.Test.YtlkameeaaplonaaDoorMrgA
import Derived.Deep.RegionHeld3
namespace Go.Proofs.YtlkameeaaplonaaDoor
open Go.Shelf Go.RowKit Go.Maps Go.Proofs.YtlkameeaaplonaaDoor.QMeasureMergeIsTogether
open Go.Proofs.YtlkameeaaplonaaDoorW.PrintWords Go.Proofs.YtlkameeaaplonaaDoorW.PrintLast Go.Proofs.YtlkameeaaplonaaDoorW.PrintMore
set_option maxRecDepth 100000 in
set_option maxHeartbeats 4000000 in
theorem merge44 (bits bits2 : Int) (A A2 : Option Addr) (c c2 k1 k2 : Nat) (l l2 : List S44) (bs bs2 : List Int) (w : World) (hC : Kd.C k44 w A l.length l) (hc : l.length ≤ c) (hC2 : Kd.C k44 w A2 l2.length l2) (hc2 : l2.length ≤ c2)
    (hT : IsTally bs l) (hT2 : IsTally bs2 l2) (hl : l.length ≤ 20000) (hl2 : l2.length ≤ 20000) (hn : bs.length + bs2.length ≤ 1000000)
    (hwf : ∀ s ∈ l, (Lit.int .i64 s.f0).wf = true ∧ (Lit.int .i64 s.f1).wf = true) (hwf2 : ∀ s ∈ l2, (Lit.int .i64 s.f0).wf = true ∧ (Lit.int .i64 s.f1).wf = true)
    (ht : measure_total.f k1 bits l = some (bs.length : Int)) (ht2 : measure_total.f k2 bits2 l2 = some (bs2.length : Int)) :
    Calls Tryd.prog 44 #[.agg #[.int .i64 bits, .slice A l.length c], .agg #[.int .i64 bits2, .slice A2 l2.length c2]] w fun e w' => ∃ v r, e = .returned (.tuple #[.agg #[.int .i64 bits, v], .int .i64 0]) ∧
      Kd.V k44 44 w' w.heap.size (fun k => w.heap.size ≤ k) v r ∧ Below w.heap.size w w' ∧ IsTally (bs ++ bs2) r := by
  obtain ⟨W0, hW0⟩ : ∃ W0, ((w.alloc (.cells #[.int .i64 bits, .slice A l.length c] 25)).alloc (.cells #[.int .i64 bits2, .slice A2 l2.length c2] 25)).alloc (.cells #[.int .i64 0, .slice none 0 0] 25) = W0 := ⟨_, rfl⟩
  have hB0 : Below w.heap.size w W0 := by rw [← hW0]; exact (((Below.refl _ w).alloc (Nat.le_refl _) _).alloc (by simp) _).alloc (by simp; omega) _
  have hs0 : W0.heap.size = w.heap.size + 3 := by rw [← hW0]; simp
  have b0 : W0.heap[w.heap.size]? = some (.cells #[.int .i64 bits, .slice A l.length c] 25 (0, 0)) := by rw [← hW0]; exact (Below.heap_alloc _ _ _ (by simp; omega)).trans ((Below.heap_alloc _ _ _ (by simp)).trans (heap_alloc_new w _))
  have b1 : W0.heap[w.heap.size + 1]? = some (.cells #[.int .i64 bits2, .slice A2 l2.length c2] 25 (0, 0)) := by rw [← hW0]; exact (Below.heap_alloc _ _ _ (by simp)).trans (by have := heap_alloc_new (w.alloc (.cells #[.int .i64 bits, .slice A l.length c] 25)) (.cells #[.int .i64 bits2, .slice A2 l2.length c2] 25); simpa using this)
  have b2 : W0.heap[w.heap.size + 2]? = some (.cells #[.int .i64 0, .slice none 0 0] 25 (0, 0)) := by rw [← hW0]; have := heap_alloc_new ((w.alloc (.cells #[.int .i64 bits, .slice A l.length c] 25)).alloc (.cells #[.int .i64 bits2, .slice A2 l2.length c2] 25)) (.cells #[.int .i64 0, .slice none 0 0] 25); simpa using this
  have hfr : ∀ W : World, Below W0.heap.size W0 W → (W.cell? ⟨w.heap.size, 0, none⟩ = some (.int .i64 bits) ∧ W.cell? ⟨w.heap.size, 1, none⟩ = some (.slice A l.length c)) ∧ (W.cell? ⟨w.heap.size + 1, 0, none⟩ = some (.int .i64 bits2) ∧ W.cell? ⟨w.heap.size + 1, 1, none⟩ = some (.slice A2 l2.length c2)) ∧ Below W0.heap.size W0 W := fun W h => by
    have c0 := (h.block _ (by omega)).trans b0
    have c1 := (h.block _ (by omega)).trans b1
    exact ⟨⟨by simp only [World.cell?, c0]; rfl, by simp only [World.cell?, c0]; rfl⟩, ⟨by simp only [World.cell?, c1]; rfl, by simp only [World.cell?, c1]; rfl⟩, h⟩
  have hCa : ∀ W, Below W0.heap.size W0 W → Kd.C k44 W A l.length l := fun W h => Kd.C_below hC (hB0.trans (Below.mono h (by omega)))
  have hCb : ∀ W, Below W0.heap.size W0 W → Kd.C k44 W A2 l2.length l2 := fun W h => Kd.C_below hC2 (hB0.trans (Below.mono h (by omega)))
  have hS0 := hfr W0.drew (Below.refl _ W0).drew
  have htA := measure_total.calls k1 bits A c l (bs.length : Int) W0.drew (hCa _ hS0.2.2) hc ht
  have hSB : ∀ w1, Below W0.drew.heap.size W0.drew w1 → (w1.cell? ⟨w.heap.size, 0, none⟩ = some (.int .i64 bits) ∧ w1.cell? ⟨w.heap.size, 1, none⟩ = some (.slice A l.length c)) ∧ (w1.cell? ⟨w.heap.size + 1, 0, none⟩ = some (.int .i64 bits2) ∧ w1.cell? ⟨w.heap.size + 1, 1, none⟩ = some (.slice A2 l2.length c2)) ∧ Below W0.heap.size W0 w1 := fun w1 h => hfr w1 ((Below.refl _ W0).drew.trans (show Below W0.heap.size W0.drew w1 from h))
  have htB := fun w1 (h : Below W0.drew.heap.size W0.drew w1) => measure_total.calls k2 bits2 A2 c2 l2 (bs2.length : Int) w1 (hCb _ (hSB w1 h).2.2) hc2 ht2
  go_enter Tryd.func44, Tryd.ntmps44
  go_wp2
  clear hW0
  go_region_held3 (fun W => (W.cell? ⟨w.heap.size, 0, none⟩ = some (.int .i64 bits) ∧ W.cell? ⟨w.heap.size, 1, none⟩ = some (.slice A l.length c)) ∧ (W.cell? ⟨w.heap.size + 1, 0, none⟩ = some (.int .i64 bits2) ∧ W.cell? ⟨w.heap.size + 1, 1, none⟩ = some (.slice A2 l2.length c2)) ∧ Below W0.heap.size W0 W) (first | assumption | exact hS0)
    (first | (go_at_call 36; refine (htB w1 hBt1).mono ?_; rintro e w2 ⟨rfl, hBt2⟩; have hS2 := hfr w2 (hS1.2.2.trans (Below.mono hBt2 hS1.2.2.size)))
           | (go_at_call 36; refine htA.mono ?_; rintro e w1 ⟨rfl, hBt1⟩; have hS1 := hSB w1 hBt1))
  obtain ⟨⟨f0, f1⟩, ⟨f2, f3⟩, hB2⟩ := hS2
  have hw : IntKind.i64.wrap ((bs.length : Int) + (bs2.length : Int)) = (bs.length : Int) + (bs2.length : Int) := by
    rw [i64_w, w64 (by omega) (by omega)]
  have hd : decide (1125899906842624 < (bs.length : Int) + (bs2.length : Int)) = false := decide_eq_false (by omega)
  have htl := tallyOf37 bits A c l bs w2 (hCa _ hB2) hT hl hwf
  clear htA htB hSB hS1 hS0 hBt1 hBt2
  (try rw [hw])
  go_wp2_with (first
    | (go_at_call 37; refine htl.mono ?_; rintro e w3 ⟨b, n, D, rfl, hb, hn3, hown, hcnt, hB3⟩; have hB3' := hB2.trans (Below.mono hB3 hB2.size); obtain ⟨⟨g0, g1⟩, ⟨g2, g3⟩, -⟩ := hfr w3 hB3')
    | go_in)
  clear htl f0 f1 f2 f3 g0 g1 g2
  have hbW : W0.heap.size ≤ b := Nat.le_trans hB2.size hb
  go_loopw [21] (fun i wr => ∃ (k m : Nat) (D : DataW Unit), k ≤ l2.length ∧ i = .int .i64 k ∧ m ≤ 20000 + k ∧ wr.ownsMap Tryd.prog 3 (plainElem Tryd.prog 3) b m D ∧ Counted D (bs ++ firsts bs2 (l2.take k)) ∧ Below W0.heap.size W0 wr)
    (fun i _ => l2.length - (intOf i).toNat)
  case atStart => exact ⟨0, n, D, Nat.zero_le _, rfl, hn3, hown, by rw [List.take_zero, firsts_nil, List.append_nil]; exact hcnt, hB3'⟩
  case round =>
    clear hcnt hown D n hn3
    obtain ⟨k, m, D, hk, rfl, hm, hown, hcnt, hB⟩ := hrel
    have hbl := hown.lt
    by_cases hlt : k < l2.length
    · have hd2 : decide ((k : Int) < (l2.length : Int)) = true := decide_eq_true (by omega)
      obtain ⟨ad, rfl, q0, q1⟩ := at_T44 (hCb _ hB) (k : Int) (by omega) (by omega)
      rw [Int.toNat_natCast] at q0 q1
      have hin : rd_T44 l2 (k : Int) ∈ l2 := by simp [rd_T44, List.getD, List.getElem?_eq_getElem hlt]
      have hw0 := hwf2 _ hin
      have hf1 : (rd_T44 l2 (k : Int)).f1 = (bs2.count (rd_T44 l2 (k : Int)).f0 : Int) := ((hT2.mem _).1 hin).2
      have hnext := fun d hd => counted_next (az := bs) hT2 k hlt hcnt d hd
      have hkm : m < maxLen := by
        have : (41000 : Nat) < maxLen := by decide
        omega
      have hc1 := List.count_le_length (a := (rd_T44 l2 (k : Int)).f0) (l := bs ++ firsts bs2 (l2.take k))
      have hc2' := List.count_le_length (a := (rd_T44 l2 (k : Int)).f0) (l := bs2)
      have hfl : (firsts bs2 (l2.take k)).length ≤ bs2.length := List.length_filter_le _ _
      rw [List.length_append] at hc1
      have hat0 : D.atKey (.int .i64 (rd_T44 l2 (k : Int)).f0) (.lit (.int .i64 0)) = .lit (.int .i64 (((bs ++ firsts bs2 (l2.take k)).count (rd_T44 l2 (k : Int)).f0 : Nat) : Int)) := by
        obtain ⟨c0, _, h0, _⟩ := hown.lookup_int law3 Tryd.underlying58 Tryd.underlying3 (zero3 _) (keyOf_int_mk Tryd.underlying3 hw0.1)
        have := hcnt.val (rd_T44 l2 (k : Int)).f0
        unfold Go.Proofs.YtlkameeaaplonaaDoor.val at this
        rw [h0] at this
        rw [h0, ← this]
      have HN := Aside0.mk hnext
      clear hnext hin hcnt
      generalize (bs ++ firsts bs2 (l2.take k)).count (rd_T44 l2 (k : Int)).f0 = cz at hc1 hat0 HN
      generalize rd_T44 l2 (k : Int) = s at q0 q1 hw0 HN hf1 hc2' hat0
      have hfb : 0 ≤ s.f1 ∧ s.f1 ≤ 1000000 := by omega
      have wfc : (Lit.int .i64 ((cz : Int) + s.f1)).wf = true := WalkArith.wf_i64 (by omega)
      have HF := Aside0.mk hf1
      clear hf1
      have hown' := hown.alloc (.cells #[.int .i64 s.f0, .int .i64 s.f1] 44)
      have hB' := hB.alloc hB.size (.cells #[.int .i64 s.f0, .int .i64 s.f1] 44)
      go_wp2_with (first
        | (at_lookup; refine wpList_lookup_own_int _ rfl _ _ 58 rfl 3 3 .i64 law3 Tryd.underlying58 Tryd.underlying3 (zero3 _) b m _ rfl hown' _ _ rfl (keyOf_int_mk Tryd.underlying3 hw0.1) ?_; intro cc hat hwc; obtain rfl : (cz : Int) = cc := (by rw [hat0] at hat; simpa using hat))
        | (at_mapUpdate; refine wpList_mapUpdate_own _ rfl _ _ _ 58 rfl 3 3 law3 Tryd.underlying58 _ b m _ rfl hown' hkm _ _ _ rfl rfl (keyOf_int_mk Tryd.underlying3 hw0.1) _ [] (plainElem_int Tryd.underlying3 wfc) ?_; intro w1 hown1 hgrow1)
        | go_in)
      have hgr : (wr.alloc (.cells #[.int .i64 s.f0, .int .i64 s.f1] 44)).grownBy w1 (some b) := ⟨hgrow1.os, hgrow1.tape, hgrow1.output, hgrow1.size, hgrow1.block⟩
      exact ⟨⟨k + 1, m + 1, _, by omega, by simp, by omega, hown1, HN.out _ rfl, hB'.grown hgr (by have := hB.size; simp; omega) (fun j hj => by have := Option.some.inj hj; omega)⟩, by simp [intOf]; omega⟩
    · have hke : k = l2.length := by omega
      subst hke
      rw [List.take_length, firsts_all hT2] at hcnt
      obtain ⟨⟨g0, g1⟩, ⟨g2, g3'⟩, -⟩ := hfr wr hB
      have hh := hist35 b m D bits wr hown (by have := hcnt.size; rw [List.length_append] at this; omega)
      have r2 := (hB.block _ (by omega)).trans b2
      go_wp2_with (first
        | (go_at_call 39; refine hh.mono ?_; rintro e w4 ⟨v4, xs4, rfl, hV4, hB4, hr4, hw4, hm4⟩; have e0 := (hB4.block _ (by have := hB.size; omega)).trans r2; obtain ⟨A4, c4, rfl⟩ := Kd.V_slice hV4; have hc00 : w4.cell? ⟨w.heap.size + 1 + 1, 0, none⟩ = some (.int .i64 0) := (by simp [World.cell?, e0]); have hc01 : w4.cell? ⟨w.heap.size + 1 + 1, 1, none⟩ = some (.slice none 0 0) := (by simp [World.cell?, e0]); have hf40 : w4.frozen? ⟨w.heap.size + 1 + 1, 0, none⟩ = false := (by simp [World.frozen?, e0]); have hf41 : w4.frozen? ⟨w.heap.size + 1 + 1, 1, none⟩ = false := (by simp [World.frozen?, e0]))
        | go_in)
      have hwr := hB.size
      have hw4s := hB4.size
      have e1 : w.heap.size + 1 + 1 = w.heap.size + 2 := rfl
      have f0 := heap_setCell_same _ (w.heap.size + 2) 0 _ 25 (.int .i64 bits) e0
      have f1 := heap_setCell_same _ (w.heap.size + 2) 1 _ 25 (.slice A4 (cnts D xs4).length c4) f0
      (try simp only [Exit.inBlock, Exit.then])
      refine bodyPost_ret (results_ct rfl _ _ (w.heap.size + 2) 25 #[.int .i64 bits, .slice A4 (cnts D xs4).length c4] (0, 0) _ rfl (by simpa using f1) Tryd.underlying25 rfl (by kernel_rfl)) rfl ?_
      refine ⟨_, _, rfl, ?_, ?_, tally_of hcnt hr4 hm4⟩
      · exact Kd.V_mono (Kd.V_far (Kd.V_far hV4 (p := ⟨w.heap.size + 2, 0, none⟩) (fun k hk e => by have e' : k = w.heap.size + 2 := e; omega) _) (p := ⟨w.heap.size + 2, 1, none⟩) (fun k hk e => by have e' : k = w.heap.size + 2 := e; omega) _) (fun k hk => by omega)
      · exact ((hB0.trans ((Below.mono hB (by omega)).trans (Below.mono hB4 (by omega)))).setCell (p := ⟨w.heap.size + 2, 0, none⟩) (by simp) _).setCell (p := ⟨w.heap.size + 2, 1, none⟩) (by simp) _
end Go.Proofs.YtlkameeaaplonaaDoor
