/- The texts of the claim, part 4: each says in its own first line what is proved and its conditions. -/
import Derived.Deep.RegionHeld3
import Derived.Test.YtlkameeaaplonaaDoorZM1
import Derived.Test.YtlkameeaaplonaaDoorZM2
import Derived.Test.YtlkameeaaplonaaDoorZM3
/- The total of a valid histogram, by measure and by its reference. -/
namespace Go.Proofs.YtlkameeaaplonaaDoor
open Go.RowKit Go.Proofs.YtlkameeaaplonaaDoor.QMeasureMergeMatchesSpec Go.Proofs.YtlkameeaaplonaaDoorW.PrintWords Go.Proofs.YtlkameeaaplonaaDoorW.PrintLast Go.Proofs.YtlkameeaaplonaaDoorW.PrintMore
set_option linter.unusedVariables false
theorem tot_step {l : List S44} (h : ∀ s ∈ l, 1 ≤ s.f1) (ht : tot l ≤ 1125899906842624) {i : Nat} (hi : i < l.length) : wrap64 (tot (l.take i) + (rd_T44 l (i : Int)).f1) = tot (l.take (i + 1)) := by
  have h1 := tot_take_le l (i + 1) (fun s hs' => by have := h s hs'; omega)
  rw [← tot_succ hi]
  exact w64 (by omega) (by omega)
theorem total_ev {l : List S44} (bits : Int) (h : ∀ s ∈ l, 1 ≤ s.f1) (ht : tot l ≤ 1125899906842624) (hl : l.length ≤ 1000000) : Ev (fun k => measure_total.f k bits l) (tot l) := by
  have key : ∀ (d i : Nat), i + d = l.length → Ev (fun k => measure_total.l0 k (tot (l.take i)) l (l.length : Int) (i : Int)) (tot l) := by
    intro d
    induction d with
    | zero =>
      intro i hi
      refine Ev.step (f := fun _ => some (tot l)) (fun k => ?_) (Ev.now _)
      rw [measure_total.l0, if_neg (by omega), List.take_of_length_le (by omega)]
    | succ d ih =>
      intro i hi
      refine Ev.step (fun k => ?_) (ih (i + 1) (by omega))
      rw [measure_total.l0, if_pos (by omega), if_pos (by omega), if_pos (by omega), tot_step h ht (by omega), add1N i (by omega)]
  exact Ev.congr (fun k => rfl) (key l.length 0 (by omega))
theorem rtotal_ev {l : List S44} (bits : Int) (h : ∀ s ∈ l, 1 ≤ s.f1) (ht : tot l ≤ 1125899906842624) (hl : l.length ≤ 1000000) : Ev (fun k => dynamometerref9_total.f k bits l) (tot l) := by
  have key : ∀ (d i : Nat), i + d = l.length → Ev (fun k => dynamometerref9_total.l0 k (tot (l.take i)) (i : Int) bits l) (tot l) := by
    intro d
    induction d with
    | zero =>
      intro i hi
      refine Ev.step (f := fun _ => some (tot l)) (fun k => ?_) (Ev.now _)
      rw [dynamometerref9_total.l0, if_neg (by omega), List.take_of_length_le (by omega)]
    | succ d ih =>
      intro i hi
      refine Ev.step (fun k => ?_) (ih (i + 1) (by omega))
      rw [dynamometerref9_total.l0, if_pos (by omega), if_pos (by omega), tot_step h ht (by omega), add1N i (by omega)]
  exact Ev.congr (fun k => rfl) (key l.length 0 (by omega))
theorem valid_wf {b : Nat} {l : List S44} (h : Valid b l) : ∀ s ∈ l, (Lit.int .i64 s.f0).wf = true ∧ (Lit.int .i64 s.f1).wf = true := fun s hs' => by
  obtain ⟨h1, h2⟩ := valid_bound h s hs'
  exact ⟨WalkArith.wf_i64 (by omega), WalkArith.wf_i64 (by omega)⟩
theorem valid_f0 {b : Nat} {l : List S44} (h : Valid b l) : ∀ s ∈ l, s.f0 ≤ 9223372036854775807 := fun s hs' => by
  obtain ⟨h1, h2⟩ := valid_bound h s hs'
  omega
end Go.Proofs.YtlkameeaaplonaaDoor

/- Minus and Merge, walked. Conditions: as each theorem says. -/
namespace Go.Proofs.YtlkameeaaplonaaDoor
open Go.Shelf Go.RowKit Go.Maps Go.Proofs.YtlkameeaaplonaaDoor.QMeasureMergeMatchesSpec
open Go.Proofs.YtlkameeaaplonaaDoorW.PrintWords Go.Proofs.YtlkameeaaplonaaDoorW.PrintLast Go.Proofs.YtlkameeaaplonaaDoorW.PrintMore
set_option linter.unusedVariables false
/-- The world at the entry: two boxes and the result. -/
structure In3 (w W0 : World) (b1 b2 : Int) (A A2 : Option Addr) (n c n2 c2 : Nat) : Prop where
  below : Below w.heap.size w W0
  size : W0.heap.size = w.heap.size + 3
  h0 : W0.heap[w.heap.size]? = some (hbx b1 A n c)
  h1 : W0.heap[w.heap.size + 1]? = some (hbx b2 A2 n2 c2)
  h2 : W0.heap[w.heap.size + 2]? = some (hbx 0 none 0 0)
theorem in3 (w : World) (b1 b2 : Int) (A A2 : Option Addr) (n c n2 c2 : Nat) : In3 w (((w.alloc (.cells #[.int .i64 b1, .slice A n c] 25)).alloc (.cells #[.int .i64 b2, .slice A2 n2 c2] 25)).alloc (.cells #[.int .i64 0, .slice none 0 0] 25)) b1 b2 A A2 n c n2 c2 :=
  ⟨(((Below.refl _ w).alloc (Nat.le_refl _) _).alloc (by simp) _).alloc (by simp; omega) _, by simp,
    (Below.heap_alloc _ _ _ (by simp; omega)).trans ((Below.heap_alloc _ _ _ (by simp)).trans (heap_alloc_new w _)),
    (Below.heap_alloc _ _ _ (by simp)).trans (by have := heap_alloc_new (w.alloc (.cells #[.int .i64 b1, .slice A n c] 25)) (.cells #[.int .i64 b2, .slice A2 n2 c2] 25); simpa using this),
    by have := heap_alloc_new ((w.alloc (.cells #[.int .i64 b1, .slice A n c] 25)).alloc (.cells #[.int .i64 b2, .slice A2 n2 c2] 25)) (.cells #[.int .i64 0, .slice none 0 0] 25); simpa using this⟩
abbrev Fr3 (w W0 : World) (b1 b2 : Int) (A A2 : Option Addr) (n c n2 c2 : Nat) (W : World) : Prop := (W.cell? ⟨w.heap.size, 0, none⟩ = some (.int .i64 b1) ∧ W.cell? ⟨w.heap.size, 1, none⟩ = some (.slice A n c)) ∧ (W.cell? ⟨w.heap.size + 1, 0, none⟩ = some (.int .i64 b2) ∧ W.cell? ⟨w.heap.size + 1, 1, none⟩ = some (.slice A2 n2 c2)) ∧ Below W0.heap.size W0 W
theorem In3.fr {w W0 : World} {b1 b2 : Int} {A A2 : Option Addr} {n c n2 c2 : Nat} (h : In3 w W0 b1 b2 A A2 n c n2 c2) {W : World} (hW : Below W0.heap.size W0 W) : Fr3 w W0 b1 b2 A A2 n c n2 c2 W :=
  ⟨bx_cells ((hW.block _ (by have := h.size; omega)).trans h.h0), bx_cells ((hW.block _ (by have := h.size; omega)).trans h.h1), hW⟩
theorem In3.up {w W0 : World} {b1 b2 : Int} {A A2 : Option Addr} {n c n2 c2 : Nat} (h : In3 w W0 b1 b2 A A2 n c n2 c2) {W : World} (hW : Below W0.heap.size W0 W) : Below w.heap.size w W := h.below.trans (Below.mono hW (by have := h.size; omega))
/-- A fault's result. -/
theorem In3.fin {w W0 : World} {b1 b2 : Int} {A A2 : Option Addr} {n c n2 c2 : Nat} (h : In3 w W0 b1 b2 A A2 n c n2 c2) {W : World} (hW : Below W0.heap.size W0 W) :
    ((W.cell? ⟨w.heap.size + 1 + 1, 0, none⟩ = some (.int .i64 0) ∧ W.cell? ⟨w.heap.size + 1 + 1, 1, none⟩ = some (.slice none 0 0)) ∧ W.frozen? ⟨w.heap.size + 1 + 1, 0, none⟩ = false ∧ W.frozen? ⟨w.heap.size + 1 + 1, 1, none⟩ = false) ∧
      (∀ (b : Int) (P : Option Addr) (k d : Nat), ((W.setCell ⟨w.heap.size + 2, 0, none⟩ (.int .i64 b)).setCell ⟨w.heap.size + 2, 1, none⟩ (.slice P k d)).heap[w.heap.size + 2]? = some (hbx b P k d)) ∧
      ∀ x y : Value, Below w.heap.size w ((W.setCell ⟨w.heap.size + 2, 0, none⟩ x).setCell ⟨w.heap.size + 2, 1, none⟩ y) := by
  have e0 := (hW.block _ (by have := h.size; omega)).trans h.h2
  exact ⟨⟨bx_cells e0, bx_free e0⟩, bx_store e0, fun x y => ((h.up hW).setCell (p := ⟨w.heap.size + 2, 0, none⟩) (by simp) _).setCell (p := ⟨w.heap.size + 2, 1, none⟩) (by simp) _⟩
theorem valid_k {b : Nat} {l : List S44} (h : Valid b l) : (∃ k, measure_total.f k (b : Int) l = some (tot l)) ∧ 0 ≤ tot l ∧ tot l ≤ 1125899906842624 ∧ l.length ≤ 6656 :=
  ⟨(total_ev (b : Int) h.pos h.total (by have := valid_len h; omega)).rounds, tot_nonneg l (fun s hs' => by have := h.pos s hs'; omega), h.total, valid_len h⟩
theorem hs_valid {b : Nat} (l : List S44) (h : Valid b l) (y : Int) : 0 ≤ hs l y ∧ hs l y ≤ tot l := ⟨hs_nonneg y l (fun s hs' => by have := h.pos s hs'; omega), hs_le_tot y l (fun s hs' => by have := h.pos s hs'; omega)⟩
theorem hs_v0 {b : Nat} {l : List S44} (h : Valid b l) (k : Nat) (y : Int) : 0 ≤ hs (l.take k) y := hs_nonneg y _ (fun s hs' => by have := h.pos s (List.mem_of_mem_take hs'); omega)
theorem hs_v1 {b : Nat} {l : List S44} (h : Valid b l) (k : Nat) (y : Int) : hs (l.take k) y ≤ tot l := by
  have h1 := hs_le_tot y (l.take k) (fun s hs' => by have := h.pos s (List.mem_of_mem_take hs'); omega)
  have h2 := tot_take_le l k (fun s hs' => by have := h.pos s hs'; omega)
  omega
set_option maxRecDepth 100000 in
set_option maxHeartbeats 4000000 in
theorem merge44g (b : Nat) (A A2 : Option Addr) (c c2 : Nat) (l l2 : List S44) (w : World) (hV : Valid b l) (hV2 : Valid b l2) (hC : Kd.C k44 w A l.length l) (hc : l.length ≤ c) (hC2 : Kd.C k44 w A2 l2.length l2) (hc2 : l2.length ≤ c2)
    (ht : tot l + tot l2 ≤ 1125899906842624) :
    Calls Tryd.prog 44 #[.agg #[.int .i64 (b : Int), .slice A l.length c], .agg #[.int .i64 (b : Int), .slice A2 l2.length c2]] w fun e w' => ∃ (P : Option Addr) (d : Nat) (r : List S44), e = .returned (.tuple #[.agg #[.int .i64 (b : Int), .slice P r.length d], .int .i64 0]) ∧
      Kd.V k44 44 w' w.heap.size (fun k => w.heap.size ≤ k) (.slice P r.length d) r ∧ Below w.heap.size w w' ∧ IsHist (fun y => hs l y + hs l2 y) r := by
  obtain ⟨⟨k1, hk1⟩, t0, t1, hl⟩ := valid_k hV
  obtain ⟨⟨k2, hk2⟩, u0, u1, hl2⟩ := valid_k hV2
  have hwf := valid_wf hV
  have hwf2 := valid_wf hV2
  obtain ⟨W0, hW0⟩ : ∃ W0, ((w.alloc (.cells #[.int .i64 (b : Int), .slice A l.length c] 25)).alloc (.cells #[.int .i64 (b : Int), .slice A2 l2.length c2] 25)).alloc (.cells #[.int .i64 0, .slice none 0 0] 25) = W0 := ⟨_, rfl⟩
  have hI : In3 w W0 b b A A2 l.length c l2.length c2 := by rw [← hW0]; exact in3 w b b A A2 l.length c l2.length c2
  have hCa : ∀ W, Below W0.heap.size W0 W → Kd.C k44 W A l.length l := fun W h => Kd.C_below hC (hI.up h)
  have hCb : ∀ W, Below W0.heap.size W0 W → Kd.C k44 W A2 l2.length l2 := fun W h => Kd.C_below hC2 (hI.up h)
  have hBd := (Below.refl W0.heap.size W0).drew
  have hS0 := hI.fr hBd
  have htA := measure_total.calls k1 (b : Int) A c l (tot l) W0.drew (hCa _ hBd) hc hk1
  have htB := fun w1 (h : Below W0.heap.size W0 w1) => measure_total.calls k2 (b : Int) A2 c2 l2 (tot l2) w1 (hCb _ h) hc2 hk2
  go_enter Tryd.func44, Tryd.ntmps44
  go_wp2
  clear hW0
  go_region_held3 (fun W => Fr3 w W0 b b A A2 l.length c l2.length c2 W) (first | assumption | exact hS0)
    (first | (go_at_call 36; refine (htB w1 hS1.2.2).mono ?_; rintro e w2 ⟨rfl, hBt2⟩; have hS2 := hI.fr (hS1.2.2.trans (Below.mono hBt2 hS1.2.2.size)))
           | (go_at_call 36; refine htA.mono ?_; rintro e w1 ⟨rfl, hBt1⟩; have hS1 := hI.fr (hBd.trans (Below.mono hBt1 hBd.size))))
  obtain ⟨⟨f0, f1⟩, ⟨f2, f3⟩, hB2⟩ := hS2
  have hw : IntKind.i64.wrap (tot l + tot l2) = tot l + tot l2 := by
    rw [i64_w, w64 (by omega) (by omega)]
  have hd : decide (1125899906842624 < tot l + tot l2) = false := decide_eq_false (by omega)
  have htl := tallyOfG (b : Int) A c l w2 (hCa _ hB2) hV.rising (by omega) hwf
  clear htA htB hS1 hS0 hBt1 hBt2
  (try rw [hw])
  go_wp2_with (first
    | (go_at_call 37; refine htl.mono ?_; rintro e w3 ⟨m, D, rfl, hm, hown, hcn, hB3⟩; have hB3' := hB2.trans (Below.mono hB3 hB2.size); obtain ⟨⟨g0, g1⟩, ⟨g2, g3⟩, -⟩ := hI.fr hB3')
    | go_in)
  clear htl f0 f1 f2 f3 g0 g1 g2 hw hd
  have hmW : W0.heap.size ≤ m := Nat.le_trans hB2.size hm
  go_loopw [21] (fun i wr => ∃ (k : Nat) (D : DataW Unit), k ≤ l2.length ∧ i = .int .i64 k ∧ wr.ownsMap Tryd.prog 3 (plainElem Tryd.prog 3) m (l.length + k) D ∧ Cn D (fun y => hs l y + hs (l2.take k) y) (l.length + k) ∧ Below W0.heap.size W0 wr)
    (fun i _ => l2.length - (intOf i).toNat)
  case atStart => exact ⟨0, D, Nat.zero_le _, rfl, hown, hcn.congr (fun y => by simp [hs]), hB3'⟩
  case round =>
    clear hcn hown D
    obtain ⟨k, D, hk, rfl, hown, hcn, hB⟩ := hrel
    have hbl := hown.lt
    by_cases hlt : k < l2.length
    · have hd2 : decide ((k : Int) < (l2.length : Int)) = true := decide_eq_true (by omega)
      obtain ⟨ad, rfl, q0, q1⟩ := at_T44 (hCb _ hB) (k : Int) (by omega) (by omega)
      rw [Int.toNat_natCast] at q0 q1
      have hw0 := hwf2 _ (rd44_mem hlt)
      have hat0 := cn_atKey hcn hown (rd_T44 l2 (k : Int)).f0 hw0.1
      have hnext := hcn.add (rd_T44 l2 (k : Int)).f0 (rd_T44 l2 (k : Int)).f1 _ rfl
      have hnext2 : Cn (D.put (.int .i64 (rd_T44 l2 (k : Int)).f0) (.lit (.int .i64 (hs l (rd_T44 l2 (k : Int)).f0 + hs (l2.take k) (rd_T44 l2 (k : Int)).f0 + (rd_T44 l2 (k : Int)).f1)))) (fun y => hs l y + hs (l2.take (k + 1)) y) (l.length + (k + 1)) :=
        hnext.congr (fun y => by rw [hs_take l2 k hlt]; omega)
      have hkm : l.length + k < maxLen := by
        have : (41000 : Nat) < maxLen := by decide
        omega
      have hz0 := hs_valid l hV (rd_T44 l2 (k : Int)).f0
      have hz1 := hs_v0 hV2 k (rd_T44 l2 (k : Int)).f0
      have hz2 := hs_v1 hV2 k (rd_T44 l2 (k : Int)).f0
      have hsb := valid_bound hV2 _ (rd44_mem hlt)
      have HN := Aside0.mk hnext2
      clear hnext hnext2 hcn
      obtain ⟨cz, hcz⟩ : ∃ cz, hs l (rd_T44 l2 (k : Int)).f0 + hs (l2.take k) (rd_T44 l2 (k : Int)).f0 = cz := ⟨_, rfl⟩
      rw [hcz] at HN
      replace hat0 : D.atKey (.int .i64 (rd_T44 l2 (k : Int)).f0) (.lit (.int .i64 0)) = .lit (.int .i64 cz) := by rw [← hcz]; exact hat0
      have hcb : 0 ≤ cz ∧ cz ≤ 1125899906842624 + 1125899906842624 := by omega
      clear hcz hz0 hz1 hz2
      generalize rd_T44 l2 (k : Int) = s at q0 q1 hw0 HN hat0 hsb
      have hsc : 1 ≤ s.f1 ∧ s.f1 ≤ 1125899906842624 := hsb.2
      clear hsb
      have wfc : (Lit.int .i64 (cz + s.f1)).wf = true := WalkArith.wf_i64 (by omega)
      have hown' := hown.alloc (.cells #[.int .i64 s.f0, .int .i64 s.f1] 44)
      have hB' := hB.alloc hB.size (.cells #[.int .i64 s.f0, .int .i64 s.f1] 44)
      go_wp2_with (first
        | (at_lookup; refine wpList_lookup_own_int _ rfl _ _ 58 rfl 3 3 .i64 law3 Tryd.underlying58 Tryd.underlying3 (zero3 _) m (l.length + k) _ rfl hown' _ _ rfl (keyOf_int_mk Tryd.underlying3 hw0.1) ?_; intro cc hat hwc; obtain rfl : cz = cc := (by rw [hat0] at hat; simpa using hat))
        | (at_mapUpdate; refine wpList_mapUpdate_own _ rfl _ _ _ 58 rfl 3 3 law3 Tryd.underlying58 _ m (l.length + k) _ rfl hown' hkm _ _ _ rfl rfl (keyOf_int_mk Tryd.underlying3 hw0.1) _ [] (plainElem_int Tryd.underlying3 wfc) ?_; intro w1 hown1 hgrow1)
        | go_in)
      have hgr : (wr.alloc (.cells #[.int .i64 s.f0, .int .i64 s.f1] 44)).grownBy w1 (some m) := ⟨hgrow1.os, hgrow1.tape, hgrow1.output, hgrow1.size, hgrow1.block⟩
      exact ⟨⟨k + 1, _, by omega, by simp, hown1, HN.out, hB'.grown hgr (by have := hB.size; simp; omega) (fun j hj => by have := Option.some.inj hj; omega)⟩, by simp [intOf]; omega⟩
    · have hke : k = l2.length := by omega
      subst hke
      rw [List.take_length] at hcn
      obtain ⟨⟨g0, g1⟩, ⟨g2, g3'⟩, -⟩ := hI.fr hB
      have hh := hist35 m _ D (b : Int) wr hown (by have := hcn.size; omega)
      go_wp2_with (first
        | (go_at_call 39; refine hh.mono ?_; rintro e w4 ⟨v4, xs4, rfl, hV4, hB4, hr4, hw4, hm4⟩; have hH := cn_hist hcn hr4 hm4; generalize cnts D xs4 = r4 at hV4 hH; obtain ⟨P4, c4, rfl, hc4, hC4⟩ := ans_of_V hV4; have HF := Aside0.mk (hI.fin (hB.trans (Below.mono hB4 hB.size))); obtain ⟨⟨⟨g0, g1⟩, g2, g3⟩, -⟩ := hI.fin (hB.trans (Below.mono hB4 hB.size)))
        | go_in)
      (try simp only [Exit.inBlock, Exit.then])
      refine bodyPost_ret (results_ct rfl _ _ (w.heap.size + 2) 25 #[.int .i64 (b : Int), .slice P4 r4.length c4] (0, 0) _ rfl (HF.out.2.1 _ _ _ _) Tryd.underlying25 rfl (by kernel_rfl)) rfl ?_
      exact ⟨P4, c4, r4, rfl, V_store2 hV4 (by have := hI.size; have := hB.size; omega) (by have := hI.size; have := hB.size; omega) _ _, HF.out.2.2 _ _, hH⟩
set_option maxRecDepth 100000 in
set_option maxHeartbeats 4000000 in
theorem merge44s (b : Nat) (A A2 : Option Addr) (c c2 : Nat) (l l2 : List S44) (w : World) (hV : Valid b l) (hV2 : Valid b l2) (hC : Kd.C k44 w A l.length l) (hc : l.length ≤ c) (hC2 : Kd.C k44 w A2 l2.length l2) (hc2 : l2.length ≤ c2)
    (ht : 1125899906842624 < tot l + tot l2) :
    AnsV 44 #[.agg #[.int .i64 (b : Int), .slice A l.length c], .agg #[.int .i64 (b : Int), .slice A2 l2.length c2]] w (0, [], 3) := by
  obtain ⟨⟨k1, hk1⟩, t0, t1, hl⟩ := valid_k hV
  obtain ⟨⟨k2, hk2⟩, u0, u1, hl2⟩ := valid_k hV2
  obtain ⟨W0, hW0⟩ : ∃ W0, ((w.alloc (.cells #[.int .i64 (b : Int), .slice A l.length c] 25)).alloc (.cells #[.int .i64 (b : Int), .slice A2 l2.length c2] 25)).alloc (.cells #[.int .i64 0, .slice none 0 0] 25) = W0 := ⟨_, rfl⟩
  have hI : In3 w W0 b b A A2 l.length c l2.length c2 := by rw [← hW0]; exact in3 w b b A A2 l.length c l2.length c2
  have hCa : ∀ W, Below W0.heap.size W0 W → Kd.C k44 W A l.length l := fun W h => Kd.C_below hC (hI.up h)
  have hCb : ∀ W, Below W0.heap.size W0 W → Kd.C k44 W A2 l2.length l2 := fun W h => Kd.C_below hC2 (hI.up h)
  have hBd := (Below.refl W0.heap.size W0).drew
  have hS0 := hI.fr hBd
  have htA := measure_total.calls k1 (b : Int) A c l (tot l) W0.drew (hCa _ hBd) hc hk1
  have htB := fun w1 (h : Below W0.heap.size W0 w1) => measure_total.calls k2 (b : Int) A2 c2 l2 (tot l2) w1 (hCb _ h) hc2 hk2
  go_enter Tryd.func44, Tryd.ntmps44
  go_wp2
  clear hW0
  go_region_held3 (fun W => Fr3 w W0 b b A A2 l.length c l2.length c2 W) (first | assumption | exact hS0)
    (first | (go_at_call 36; refine (htB w1 hS1.2.2).mono ?_; rintro e w2 ⟨rfl, hBt2⟩; have hS2 := hI.fr (hS1.2.2.trans (Below.mono hBt2 hS1.2.2.size)))
           | (go_at_call 36; refine htA.mono ?_; rintro e w1 ⟨rfl, hBt1⟩; have hS1 := hI.fr (hBd.trans (Below.mono hBt1 hBd.size))))
  obtain ⟨⟨f0, f1⟩, ⟨f2, f3⟩, hB2⟩ := hS2
  have hw : IntKind.i64.wrap (tot l + tot l2) = tot l + tot l2 := by
    rw [i64_w, w64 (by omega) (by omega)]
  have hd : decide (1125899906842624 < tot l + tot l2) = true := decide_eq_true (by omega)
  have HF := Aside0.mk (hI.fin hB2)
  obtain ⟨⟨⟨g0, g1⟩, g2, g3⟩, -⟩ := hI.fin hB2
  clear htA htB hS1 hS0 hBt1 hBt2
  (try rw [hw])
  go_wp2
  (try simp only [Exit.inBlock, Exit.then])
  refine bodyPost_ret (results_ct rfl _ _ (w.heap.size + 2) 25 #[.int .i64 0, .slice none 0 0] (0, 0) _ rfl (HF.out.2.1 _ _ _ _) Tryd.underlying25 rfl (by kernel_rfl)) rfl ?_
  exact ⟨none, 0, rfl, Kd.V_nil _ _ _ _ _, HF.out.2.2 _ _⟩
set_option maxRecDepth 100000 in
set_option maxHeartbeats 4000000 in
theorem minus22 (b : Nat) (A A2 : Option Addr) (c c2 k0 : Nat) (l l2 : List S44) (w : World) (hV : Valid b l) (hV2 : Valid b l2) (hC : Kd.C k44 w A l.length l) (hc : l.length ≤ c) (hC2 : Kd.C k44 w A2 l2.length l2) (hc2 : l2.length ≤ c2)
    (hchk : measure_checkBoth.f k0 (b : Int) l (b : Int) l2 = some 0) :
    Calls Tryd.prog 22 #[.agg #[.int .i64 (b : Int), .slice A l.length c], .agg #[.int .i64 (b : Int), .slice A2 l2.length c2]] w fun e w' => ∃ (r : Res) (P : Option Addr) (d : Nat), (e = .returned (.tuple #[.agg #[.int .i64 r.1, .slice P r.2.1.length d], .int .i64 r.2.2]) ∧ r.2.1.length ≤ d ∧
      Kd.C k44 w' P r.2.1.length r.2.1 ∧ Below w.heap.size w w') ∧ ((r = (0, [], 9) ∧ ∃ s ∈ l2, hs l s.f0 < s.f1) ∨ ((∀ s ∈ l2, s.f1 ≤ hs l s.f0) ∧ ∃ q, r = ((b : Int), q, 0) ∧ IsHist (fun y => hs l y - hs l2 y) q)) := by
  obtain ⟨-, t0, t1, hl⟩ := valid_k hV
  obtain ⟨-, u0, u1, hl2⟩ := valid_k hV2
  have hwf := valid_wf hV
  have hwf2 := valid_wf hV2
  obtain ⟨W0, hW0⟩ : ∃ W0, ((w.alloc (.cells #[.int .i64 (b : Int), .slice A l.length c] 25)).alloc (.cells #[.int .i64 (b : Int), .slice A2 l2.length c2] 25)).alloc (.cells #[.int .i64 0, .slice none 0 0] 25) = W0 := ⟨_, rfl⟩
  have hI : In3 w W0 b b A A2 l.length c l2.length c2 := by rw [← hW0]; exact in3 w b b A A2 l.length c l2.length c2
  have hCa : ∀ W, Below W0.heap.size W0 W → Kd.C k44 W A l.length l := fun W h => Kd.C_below hC (hI.up h)
  have hCb : ∀ W, Below W0.heap.size W0 W → Kd.C k44 W A2 l2.length l2 := fun W h => Kd.C_below hC2 (hI.up h)
  have hcb := measure_checkBoth.calls k0 (b : Int) A c l (b : Int) A2 c2 l2 0 W0 (hCa _ (Below.refl _ _)) hc (hCb _ (Below.refl _ _)) hc2 hchk
  obtain ⟨⟨f0, f1⟩, ⟨f2, f3⟩, -⟩ := hI.fr (Below.refl _ _)
  go_enter Tryd.func22, Tryd.ntmps22
  go_wp2_with (first
    | (go_at_call 37; refine (tallyOfG (b : Int) A c l w1 (hCa _ hB1) hV.rising (by omega) hwf).mono ?_; rintro e w3 ⟨m, D, rfl, hm, hown, hcn, hB3⟩; have hB3' := hB1.trans (Below.mono hB3 hB1.size); obtain ⟨⟨g0, g1⟩, ⟨g2, g3⟩, -⟩ := hI.fr hB3')
    | (go_at_call 43; refine hcb.mono ?_; clear hcb f0 f1 f2 f3; rintro e w1 ⟨rfl, hB1⟩; obtain ⟨⟨f0, f1⟩, ⟨f2, f3⟩, -⟩ := hI.fr hB1)
    | go_in)
  clear f0 f1 f2 f3 g0 g1 g2 hW0
  have hmW : W0.heap.size ≤ m := Nat.le_trans hB1.size hm
  go_loopw [22] (fun i wr => ∃ (k : Nat) (D : DataW Unit), k ≤ l2.length ∧ i = .int .i64 k ∧ wr.ownsMap Tryd.prog 3 (plainElem Tryd.prog 3) m (l.length + k) D ∧ Cn D (fun y => hs l y - hs (l2.take k) y) (l.length + k) ∧ (∀ j : Nat, j < k → (rd_T44 l2 (j : Int)).f1 ≤ hs l (rd_T44 l2 (j : Int)).f0) ∧ Below W0.heap.size W0 wr)
    (fun i _ => l2.length - (intOf i).toNat)
  case atStart => exact ⟨0, D, Nat.zero_le _, rfl, hown, hcn.congr (fun y => by simp [hs]), fun j hj => by omega, hB3'⟩
  case round =>
    clear hcn hown D
    obtain ⟨k, D, hk, rfl, hown, hcn, hle, hB⟩ := hrel
    have hbl := hown.lt
    by_cases hlt : k < l2.length
    · have hd2 : decide ((k : Int) < (l2.length : Int)) = true := decide_eq_true (by omega)
      obtain ⟨ad, rfl, q0, q1⟩ := at_T44 (hCb _ hB) (k : Int) (by omega) (by omega)
      rw [Int.toNat_natCast] at q0 q1
      have hin := rd44_mem hlt
      have hw0 := hwf2 _ hin
      have hat0 := cn_atKey hcn hown (rd_T44 l2 (k : Int)).f0 hw0.1
      have hz := hs_ahead hV2.rising k hlt
      have hnext : Cn (D.put (.int .i64 (rd_T44 l2 (k : Int)).f0) (.lit (.int .i64 (hs l (rd_T44 l2 (k : Int)).f0 - (rd_T44 l2 (k : Int)).f1)))) (fun y => hs l y - hs (l2.take (k + 1)) y) (l.length + (k + 1)) :=
        (hcn.add (rd_T44 l2 (k : Int)).f0 (-(rd_T44 l2 (k : Int)).f1) _ (by rw [hz]; omega)).congr (fun y => by rw [hs_take l2 k hlt]; split <;> omega)
      rw [hz, Int.sub_zero] at hat0
      have hkm : l.length + k < maxLen := by
        have : (41000 : Nat) < maxLen := by decide
        omega
      have hz0 := hs_valid l hV (rd_T44 l2 (k : Int)).f0
      have hsb := (valid_bound hV2 _ hin).2
      have hle' : (rd_T44 l2 (k : Int)).f1 ≤ hs l (rd_T44 l2 (k : Int)).f0 → ∀ j : Nat, j < k + 1 → (rd_T44 l2 (j : Int)).f1 ≤ hs l (rd_T44 l2 (j : Int)).f0 := fun h j hj => by
        rcases Nat.lt_or_ge j k with h1 | h1
        · exact hle j h1
        · obtain rfl : j = k := by omega
          exact h
      have hno : hs l (rd_T44 l2 (k : Int)).f0 < (rd_T44 l2 (k : Int)).f1 → ∃ s ∈ l2, hs l s.f0 < s.f1 := fun h => ⟨_, hin, h⟩
      have HN := Aside0.mk hnext
      clear hnext hcn hle hz hin
      have HF := Aside0.mk (hI.fin hB)
      obtain ⟨⟨⟨g0, g1⟩, g2, g3⟩, -⟩ := hI.fin hB
      have HL := Aside0.mk hle'
      have HO := Aside0.mk hno
      clear hle' hno
      obtain ⟨cz, hcz⟩ : ∃ cz, hs l (rd_T44 l2 (k : Int)).f0 = cz := ⟨_, rfl⟩
      rw [hcz] at HN HL HO hat0 hz0
      clear hcz
      generalize rd_T44 l2 (k : Int) = s at q0 q1 hw0 HN HL HO hat0 hsb
      have wfc : (Lit.int .i64 (cz - s.f1)).wf = true := WalkArith.wf_i64 (by omega)
      have hown' := hown.alloc (.cells #[.int .i64 s.f0, .int .i64 s.f1] 44)
      have hB' := hB.alloc hB.size (.cells #[.int .i64 s.f0, .int .i64 s.f1] 44)
      have HF' := Aside0.mk (hI.fin hB')
      obtain ⟨⟨⟨g0', g1'⟩, g2', g3'⟩, -⟩ := hI.fin hB'
      by_cases hf : cz < s.f1
      · have hd3 : decide (cz < s.f1) = true := decide_eq_true hf
        go_wp2_with (first
          | (at_lookup; refine wpList_lookup_own_int _ rfl _ _ 58 rfl 3 3 .i64 law3 Tryd.underlying58 Tryd.underlying3 (zero3 _) m (l.length + k) _ rfl hown' _ _ rfl (keyOf_int_mk Tryd.underlying3 hw0.1) ?_; intro cc hat hwc; obtain rfl : cz = cc := (by rw [hat0] at hat; simpa using hat))
          | go_in)
        (try simp only [Exit.inBlock, Exit.then])
        refine bodyPost_ret (results_ct rfl _ _ (w.heap.size + 2) 25 #[.int .i64 0, .slice none 0 0] (0, 0) _ rfl (HF'.out.2.1 _ _ _ _) Tryd.underlying25 rfl (by kernel_rfl)) rfl ?_
        exact ⟨(0, [], 9), none, 0, ⟨rfl, Nat.le_refl _, C_nil _, HF'.out.2.2 _ _⟩, .inl ⟨rfl, HO.out hf⟩⟩
      · have hd3 : decide (cz < s.f1) = false := decide_eq_false hf
        go_wp2_with (first
          | (at_lookup; refine wpList_lookup_own_int _ rfl _ _ 58 rfl 3 3 .i64 law3 Tryd.underlying58 Tryd.underlying3 (zero3 _) m (l.length + k) _ rfl hown' _ _ rfl (keyOf_int_mk Tryd.underlying3 hw0.1) ?_; intro cc hat hwc; obtain rfl : cz = cc := (by rw [hat0] at hat; simpa using hat))
          | (at_mapUpdate; refine wpList_mapUpdate_own _ rfl _ _ _ 58 rfl 3 3 law3 Tryd.underlying58 _ m (l.length + k) _ rfl hown' hkm _ _ _ rfl rfl (keyOf_int_mk Tryd.underlying3 hw0.1) _ [] (plainElem_int Tryd.underlying3 wfc) ?_; intro w1 hown1 hgrow1)
          | go_in)
        have hgr : (wr.alloc (.cells #[.int .i64 s.f0, .int .i64 s.f1] 44)).grownBy w1 (some m) := ⟨hgrow1.os, hgrow1.tape, hgrow1.output, hgrow1.size, hgrow1.block⟩
        exact ⟨⟨k + 1, _, by omega, by simp, hown1, HN.out, HL.out (by omega), hB'.grown hgr (by have := hB.size; simp; omega) (fun j hj => by have := Option.some.inj hj; omega)⟩, by simp [intOf]; omega⟩
    · have hke : k = l2.length := by omega
      subst hke
      rw [List.take_length] at hcn
      obtain ⟨⟨g0, g1⟩, ⟨g2, g3'⟩, -⟩ := hI.fr hB
      have hh := hist35 m _ D (b : Int) wr hown (by have := hcn.size; omega)
      have HL := Aside0.mk hle
      clear hle
      go_wp2_with (first
        | (go_at_call 39; refine hh.mono ?_; rintro e w4 ⟨v4, xs4, rfl, hV4, hB4, hr4, hw4, hm4⟩; have hH := cn_hist hcn hr4 hm4; generalize cnts D xs4 = r4 at hV4 hH; obtain ⟨P4, c4, rfl, hc4, hC4⟩ := ans_of_V hV4; have HF := Aside0.mk (hI.fin (hB.trans (Below.mono hB4 hB.size))); obtain ⟨⟨⟨g0, g1⟩, g2, g3⟩, -⟩ := hI.fin (hB.trans (Below.mono hB4 hB.size)))
        | go_in)
      (try simp only [Exit.inBlock, Exit.then])
      refine bodyPost_ret (results_ct rfl _ _ (w.heap.size + 2) 25 #[.int .i64 (b : Int), .slice P4 r4.length c4] (0, 0) _ rfl (HF.out.2.1 _ _ _ _) Tryd.underlying25 rfl (by kernel_rfl)) rfl ?_
      exact ⟨((b : Int), r4, 0), P4, c4, ⟨rfl, hc4, V_store hV4 (by have := hI.size; have := hB.size; omega) _ _, HF.out.2.2 _ _⟩, .inr ⟨fun s hs' => by
        obtain ⟨j, hj, rfl⟩ := List.mem_iff_getElem.1 hs'
        have := HL.out j hj
        rwa [rd44 hj] at this, r4, rfl, hH⟩⟩
end Go.Proofs.YtlkameeaaplonaaDoor

/- Merge and Minus of measure with their checks. Conditions: as each theorem says. -/
namespace Go.Proofs.YtlkameeaaplonaaDoor
open Go.Shelf Go.RowKit Go.Maps Go.Proofs.YtlkameeaaplonaaDoor.QMeasureMergeMatchesSpec
open Go.Proofs.YtlkameeaaplonaaDoorW.PrintWords Go.Proofs.YtlkameeaaplonaaDoorW.PrintLast Go.Proofs.YtlkameeaaplonaaDoorW.PrintMore
set_option linter.unusedVariables false
set_option maxRecDepth 100000 in
set_option maxHeartbeats 4000000 in
theorem merge17f (b1 b2 f : Int) (A A2 : Option Addr) (c c2 k0 : Nat) (l l2 : List S44) (w : World) (hC : Kd.C k44 w A l.length l) (hc : l.length ≤ c) (hC2 : Kd.C k44 w A2 l2.length l2) (hc2 : l2.length ≤ c2)
    (hchk : measure_checkBoth.f k0 b1 l b2 l2 = some f) (d0 : (f != 0) = true) :
    Ans 17 #[.agg #[.int .i64 b1, .slice A l.length c], .agg #[.int .i64 b2, .slice A2 l2.length c2]] w (0, [], f) := by
  obtain ⟨W0, hW0⟩ : ∃ W0, ((w.alloc (.cells #[.int .i64 b1, .slice A l.length c] 25)).alloc (.cells #[.int .i64 b2, .slice A2 l2.length c2] 25)).alloc (.cells #[.int .i64 0, .slice none 0 0] 25) = W0 := ⟨_, rfl⟩
  have hI : In3 w W0 b1 b2 A A2 l.length c l2.length c2 := by rw [← hW0]; exact in3 w b1 b2 A A2 l.length c l2.length c2
  have hcb := measure_checkBoth.calls k0 b1 A c l b2 A2 c2 l2 f W0 (Kd.C_below hC hI.below) hc (Kd.C_below hC2 hI.below) hc2 hchk
  obtain ⟨⟨f0, f1⟩, ⟨f2, f3⟩, -⟩ := hI.fr (Below.refl _ _)
  clear hchk
  go_enter Tryd.func17, Tryd.ntmps17
  go_wp2_with (first
    | (go_at_call 43; refine hcb.mono ?_; clear hcb f0 f1 f2 f3; rintro e w1 ⟨rfl, hB1⟩; obtain ⟨⟨f0, f1⟩, ⟨f2, f3⟩, -⟩ := hI.fr hB1; have HF := Aside0.mk (hI.fin hB1); obtain ⟨⟨⟨g0, g1⟩, g2, g3⟩, -⟩ := hI.fin hB1)
    | go_in)
  (try simp only [Exit.inBlock, Exit.then])
  refine bodyPost_ret (results_ct rfl _ _ (w.heap.size + 2) 25 #[.int .i64 0, .slice none 0 0] (0, 0) _ rfl (HF.out.2.1 _ _ _ _) Tryd.underlying25 rfl (by kernel_rfl)) rfl ?_
  exact ⟨none, 0, rfl, Nat.le_refl _, C_nil _, HF.out.2.2 _ _⟩
set_option maxRecDepth 100000 in
set_option maxHeartbeats 4000000 in
theorem minus22f (b1 b2 f : Int) (A A2 : Option Addr) (c c2 k0 : Nat) (l l2 : List S44) (w : World) (hC : Kd.C k44 w A l.length l) (hc : l.length ≤ c) (hC2 : Kd.C k44 w A2 l2.length l2) (hc2 : l2.length ≤ c2)
    (hchk : measure_checkBoth.f k0 b1 l b2 l2 = some f) (d0 : (f != 0) = true) :
    Ans 22 #[.agg #[.int .i64 b1, .slice A l.length c], .agg #[.int .i64 b2, .slice A2 l2.length c2]] w (0, [], f) := by
  obtain ⟨W0, hW0⟩ : ∃ W0, ((w.alloc (.cells #[.int .i64 b1, .slice A l.length c] 25)).alloc (.cells #[.int .i64 b2, .slice A2 l2.length c2] 25)).alloc (.cells #[.int .i64 0, .slice none 0 0] 25) = W0 := ⟨_, rfl⟩
  have hI : In3 w W0 b1 b2 A A2 l.length c l2.length c2 := by rw [← hW0]; exact in3 w b1 b2 A A2 l.length c l2.length c2
  have hcb := measure_checkBoth.calls k0 b1 A c l b2 A2 c2 l2 f W0 (Kd.C_below hC hI.below) hc (Kd.C_below hC2 hI.below) hc2 hchk
  obtain ⟨⟨f0, f1⟩, ⟨f2, f3⟩, -⟩ := hI.fr (Below.refl _ _)
  clear hchk
  go_enter Tryd.func22, Tryd.ntmps22
  go_wp2_with (first
    | (go_at_call 43; refine hcb.mono ?_; clear hcb f0 f1 f2 f3; rintro e w1 ⟨rfl, hB1⟩; obtain ⟨⟨f0, f1⟩, ⟨f2, f3⟩, -⟩ := hI.fr hB1; have HF := Aside0.mk (hI.fin hB1); obtain ⟨⟨⟨g0, g1⟩, g2, g3⟩, -⟩ := hI.fin hB1)
    | go_in)
  (try simp only [Exit.inBlock, Exit.then])
  refine bodyPost_ret (results_ct rfl _ _ (w.heap.size + 2) 25 #[.int .i64 0, .slice none 0 0] (0, 0) _ rfl (HF.out.2.1 _ _ _ _) Tryd.underlying25 rfl (by kernel_rfl)) rfl ?_
  exact ⟨none, 0, rfl, Nat.le_refl _, C_nil _, HF.out.2.2 _ _⟩
set_option maxRecDepth 100000 in
set_option maxHeartbeats 4000000 in
/-- Merge hands on what merge hands back. -/
theorem merge17 (b : Int) (r : Res) (A A2 : Option Addr) (c c2 k0 : Nat) (l l2 : List S44) (w : World) (hC : Kd.C k44 w A l.length l) (hc : l.length ≤ c) (hC2 : Kd.C k44 w A2 l2.length l2) (hc2 : l2.length ≤ c2)
    (hchk : measure_checkBoth.f k0 b l b l2 = some 0)
    (hm : ∀ W, Below w.heap.size w W → AnsV 44 #[.agg #[.int .i64 b, .slice A l.length c], .agg #[.int .i64 b, .slice A2 l2.length c2]] W r) :
    Ans 17 #[.agg #[.int .i64 b, .slice A l.length c], .agg #[.int .i64 b, .slice A2 l2.length c2]] w r := by
  obtain ⟨r1, r2, r3⟩ := r
  obtain ⟨W0, hW0⟩ : ∃ W0, ((w.alloc (.cells #[.int .i64 b, .slice A l.length c] 25)).alloc (.cells #[.int .i64 b, .slice A2 l2.length c2] 25)).alloc (.cells #[.int .i64 0, .slice none 0 0] 25) = W0 := ⟨_, rfl⟩
  have hI : In3 w W0 b b A A2 l.length c l2.length c2 := by rw [← hW0]; exact in3 w b b A A2 l.length c l2.length c2
  have hcb := measure_checkBoth.calls k0 b A c l b A2 c2 l2 0 W0 (Kd.C_below hC hI.below) hc (Kd.C_below hC2 hI.below) hc2 hchk
  obtain ⟨⟨f0, f1⟩, ⟨f2, f3⟩, -⟩ := hI.fr (Below.refl _ _)
  clear hchk
  go_enter Tryd.func17, Tryd.ntmps17
  go_wp2_with (first
    | (go_at_call 44; refine (hm w1 (hI.up hB1)).mono ?_; rintro e w2 ⟨P, d, rfl, hVr, hB2⟩; have hB12 := hB1.trans (Below.mono hB2 hB1.size); have HF := Aside0.mk (hI.fin hB12); obtain ⟨⟨⟨g0, g1⟩, g2, g3⟩, -⟩ := hI.fin hB12)
    | (go_at_call 43; refine hcb.mono ?_; clear hcb f0 f1 f2 f3; rintro e w1 ⟨rfl, hB1⟩; obtain ⟨⟨f0, f1⟩, ⟨f2, f3⟩, -⟩ := hI.fr hB1)
    | go_in)
  (try simp only [Exit.inBlock, Exit.then])
  refine bodyPost_ret (results_ct rfl _ _ (w.heap.size + 2) 25 #[.int .i64 r1, .slice P r2.length d] (0, 0) _ rfl (HF.out.2.1 _ _ _ _) Tryd.underlying25 rfl (by kernel_rfl)) rfl ?_
  exact ⟨P, d, rfl, (Kd.V_reads' hVr).2.1, V_store hVr (by have := hI.size; have := hB1.size; omega) _ _, HF.out.2.2 _ _⟩
end Go.Proofs.YtlkameeaaplonaaDoor

/- More of a bucket, by the reference. Condition: the histogram is short, its counts are in 64 bits with what comes. -/
namespace Go.Proofs.YtlkameeaaplonaaDoor
open Go.RowKit Go.Proofs.YtlkameeaaplonaaDoor.QMeasureMergeMatchesSpec Go.Proofs.YtlkameeaaplonaaDoorW.PrintWords Go.Proofs.YtlkameeaaplonaaDoorW.PrintLast Go.Proofs.YtlkameeaaplonaaDoorW.PrintMore
set_option linter.unusedVariables false
set_option linter.unusedSimpArgs false
/-- A histogram with n more of x, n above 0. -/
def moreL (x n : Int) : List S44 → List S44
  | [] => [⟨x, n⟩]
  | s :: r => if s.f0 ≥ x then (if s.f0 = x then ⟨s.f0, s.f1 + n⟩ :: r else ⟨x, n⟩ :: s :: r) else s :: moreL x n r
theorem hs_moreL (x n y : Int) : ∀ l : List S44, hs (moreL x n l) y = hs l y + if x = y then n else 0
  | [] => by simp [moreL, hs]
  | s :: r => by
    rw [moreL]
    split
    · split
      · rename_i h1 h2
        show (if s.f0 = y then s.f1 + n else 0) + hs r y = _
        rw [hs, h2]
        split <;> omega
      · show (if x = y then n else 0) + hs (s :: r) y = _
        omega
    · rw [hs, hs, hs_moreL x n y r]
      omega
theorem moreL_mem (x n : Int) (s : S44) : ∀ l : List S44, s ∈ moreL x n l → s.f0 = x ∨ ∃ t ∈ l, t.f0 = s.f0
  | [], h => by
    simp [moreL] at h
    exact .inl (by rw [h])
  | t :: r, h => by
    rw [moreL] at h
    split at h
    · split at h
      · rcases List.mem_cons.1 h with rfl | h
        · exact .inr ⟨t, by simp, rfl⟩
        · exact .inr ⟨s, by simp [h], rfl⟩
      · rcases List.mem_cons.1 h with rfl | h
        · exact .inl rfl
        · exact .inr ⟨s, h, rfl⟩
    · rcases List.mem_cons.1 h with rfl | h
      · exact .inr ⟨s, by simp, rfl⟩
      · rcases moreL_mem x n s r h with h | ⟨u, hu, e⟩
        · exact .inl h
        · exact .inr ⟨u, by simp [hu], e⟩
theorem moreL_rising (x n : Int) : ∀ l : List S44, (l.map (·.f0)).Pairwise (· < ·) → ((moreL x n l).map (·.f0)).Pairwise (· < ·)
  | [], _ => by simp [moreL]
  | s :: r, h => by
    have h' := h
    rw [List.map_cons, List.pairwise_cons] at h'
    rw [moreL]
    split
    · split
      · exact h
      · rename_i h1 h2
        rw [List.map_cons, List.pairwise_cons]
        refine ⟨fun y hy => ?_, h⟩
        rcases List.mem_cons.1 hy with rfl | hy
        · show x < s.f0
          omega
        · have := h'.1 y hy
          show x < y
          omega
    · rename_i h1
      rw [List.map_cons, List.pairwise_cons]
      refine ⟨fun y hy => ?_, moreL_rising x n r h'.2⟩
      obtain ⟨t, ht, rfl⟩ := List.mem_map.1 hy
      rcases moreL_mem x n t r ht with e | ⟨u, hu, e⟩
      · rw [e]
        omega
      · rw [← e]
        exact h'.1 _ (List.mem_map.2 ⟨u, hu, rfl⟩)
theorem moreL_pos (x n : Int) (hn : 0 < n) : ∀ l : List S44, (∀ s ∈ l, 0 < s.f1) → ∀ s ∈ moreL x n l, 0 < s.f1
  | [], _, s, h => by
    simp [moreL] at h
    rw [h]
    exact hn
  | t :: r, hp, s, h => by
    have ht := hp t (by simp)
    rw [moreL] at h
    split at h
    · split at h
      · rcases List.mem_cons.1 h with rfl | h
        · show 0 < t.f1 + n
          omega
        · exact hp s (by simp [h])
      · rcases List.mem_cons.1 h with rfl | h
        · exact hn
        · exact hp s h
    · rcases List.mem_cons.1 h with rfl | h
      · exact ht
      · exact moreL_pos x n hn r (fun u hu => hp u (by simp [hu])) s h
theorem moreL_len (x n : Int) : ∀ l : List S44, (moreL x n l).length ≤ l.length + 1
  | [] => by simp [moreL]
  | s :: r => by
    rw [moreL]
    have := moreL_len x n r
    split
    · split <;> simp
    · simp
      omega
/-- More of a bucket. -/
def moreF (x n : Int) (l : List S44) : List S44 := if n = 0 then l else moreL x n l
/-- A histogram with the counts F, short. -/
structure IsH (F : Int → Int) (m : Nat) (l : List S44) : Prop where
  hist : IsHist F l
  len : l.length ≤ m
theorem isH_nil (m : Nat) : IsH (fun _ => 0) m [] := ⟨⟨by simp, fun s => by simp; omega⟩, by simp⟩
theorem isH_more {F : Int → Int} {m : Nat} {l : List S44} (h : IsH F m l) (h0 : ∀ x, 0 ≤ F x) (x n : Int) (hn : 0 ≤ n) : IsH (fun y => F y + if x = y then n else 0) (m + 1) (moreF x n l) := by
  unfold moreF
  by_cases h1 : n = 0
  · rw [if_pos h1]
    exact ⟨h.hist.congr (fun y => by split <;> omega), by have := h.len; omega⟩
  · rw [if_neg h1]
    refine ⟨(isHist_hs (moreL_rising x n l h.hist.rising) (moreL_pos x n (by omega) l h.hist.pos)).congr fun y => ?_, by have := moreL_len x n l; have := h.len; omega⟩
    rw [hs_moreL, h.hist.eq h0]
theorem isH_bound' {F : Int → Int} {m : Nat} {l : List S44} (h : IsH F m l) {B : Int} (hB : ∀ y, F y ≤ B) : ∀ s ∈ l, 0 < s.f1 ∧ s.f1 ≤ B := fun s hs' => by
  obtain ⟨h1, h2⟩ := (h.hist.mem s).1 hs'
  have := hB s.f0
  omega
theorem more_done (x n bits : Int) (l : List S44) (hl : l.length ≤ 1000000) : ∀ (d i : Nat) (out : List S44), i + d = l.length → out.length ≤ i + 1 → Ev (fun k => dynamometerref9_more.l0 k x n true (i : Int) bits l bits out) (bits, out ++ l.drop i) := by
  intro d
  induction d with
  | zero =>
    intro i out hi ho
    refine Ev.step (f := fun _ => some (bits, out ++ l.drop i)) (fun k => ?_) (Ev.now _)
    rw [dynamometerref9_more.l0, if_neg (by omega), if_pos rfl, List.drop_of_length_le (by omega), List.append_nil]
  | succ d ih =>
    intro i out hi ho
    have hd : l.drop i = rd_T44 l (i : Int) :: l.drop (i + 1) := by rw [rd44 (by omega)]; exact List.drop_eq_getElem_cons (by omega)
    have h := ih (i + 1) (out ++ [rd_T44 l (i : Int)]) (by omega) (by rw [List.length_append]; simp; omega)
    rw [hd]
    rw [List.append_assoc, List.singleton_append] at h
    refine Ev.step (f := fun k => dynamometerref9_more.j1 k x n true (i : Int) false bits l bits out (rd_T44 l (i : Int)).f0 (rd_T44 l (i : Int)).f1) (fun k => ?_) (Ev.step (fun k => ?_) h)
    · rw [dynamometerref9_more.l0, if_pos (by omega), if_pos (by omega), if_pos rfl]
    · rw [dynamometerref9_more.j1, if_neg (by decide), if_pos (by omega), add1N i (by omega)]
theorem more_loop (x n bits : Int) (l : List S44) (hl : l.length ≤ 1000000) (hw : ∀ s ∈ l, -9223372036854775808 ≤ s.f1 + n ∧ s.f1 + n < 9223372036854775808) : ∀ (d i : Nat) (out : List S44), i + d = l.length → out.length ≤ i →
    Ev (fun k => dynamometerref9_more.l0 k x n false (i : Int) bits l bits out) (bits, out ++ moreL x n (l.drop i)) := by
  intro d
  induction d with
  | zero =>
    intro i out hi ho
    rw [List.drop_of_length_le (by omega), moreL]
    refine Ev.step (f := fun _ => some (bits, out ++ [(⟨x, n⟩ : S44)])) (fun k => ?_) (Ev.now _)
    rw [dynamometerref9_more.l0, if_neg (by omega), if_neg (by decide), if_pos (by omega)]
  | succ d ih =>
    intro i out hi ho
    have hil : i < l.length := by omega
    have hd : l.drop i = rd_T44 l (i : Int) :: l.drop (i + 1) := by rw [rd44 (by omega)]; exact List.drop_eq_getElem_cons (by omega)
    obtain ⟨w1, w2⟩ := hw _ (rd44_mem hil)
    have ew : wrap64 ((rd_T44 l (i : Int)).f1 + n) = (rd_T44 l (i : Int)).f1 + n := w64 w1 w2
    have es := add1N i (by omega)
    rw [hd, moreL]
    by_cases hx : (rd_T44 l (i : Int)).f0 ≥ x
    · rw [if_pos hx]
      by_cases he : (rd_T44 l (i : Int)).f0 = x
      · rw [if_pos he]
        have h := more_done x n bits l hl d (i + 1) (out ++ [(⟨(rd_T44 l (i : Int)).f0, (rd_T44 l (i : Int)).f1 + n⟩ : S44)]) (by omega) (by rw [List.length_append]; simp; omega)
        rw [List.append_assoc, List.singleton_append] at h
        refine Ev.step (f := fun k => dynamometerref9_more.j1 k x n false (i : Int) true bits l bits out (rd_T44 l (i : Int)).f0 (rd_T44 l (i : Int)).f1) (fun k => ?_) (Ev.step (fun k => ?_) h)
        · rw [dynamometerref9_more.l0, if_pos (by omega), if_pos (by omega), if_neg (by decide), decide_eq_true hx]
        · rw [dynamometerref9_more.j1, if_pos rfl, if_pos he, if_pos (by omega), es, ew]
      · rw [if_neg he]
        have h := more_done x n bits l hl d (i + 1) (out ++ [(⟨x, n⟩ : S44)] ++ [rd_T44 l (i : Int)]) (by omega) (by rw [List.length_append, List.length_append]; simp; omega)
        have e2 : out ++ [(⟨x, n⟩ : S44)] ++ [rd_T44 l (i : Int)] ++ l.drop (i + 1) = out ++ (⟨x, n⟩ : S44) :: rd_T44 l (i : Int) :: l.drop (i + 1) := by simp
        rw [e2] at h
        refine Ev.step (f := fun k => dynamometerref9_more.j1 k x n false (i : Int) true bits l bits out (rd_T44 l (i : Int)).f0 (rd_T44 l (i : Int)).f1) (fun k => ?_) (Ev.step (fun k => ?_) h)
        · rw [dynamometerref9_more.l0, if_pos (by omega), if_pos (by omega), if_neg (by decide), decide_eq_true hx]
        · rw [dynamometerref9_more.j1, if_pos rfl, if_neg he, if_pos (by omega), Option.bind_some, if_pos (by rw [List.length_append]; simp; omega), es]
    · rw [if_neg hx]
      have h := ih (i + 1) (out ++ [rd_T44 l (i : Int)]) (by omega) (by rw [List.length_append]; simp; omega)
      rw [List.append_assoc, List.singleton_append] at h
      refine Ev.step (f := fun k => dynamometerref9_more.j1 k x n false (i : Int) false bits l bits out (rd_T44 l (i : Int)).f0 (rd_T44 l (i : Int)).f1) (fun k => ?_) (Ev.step (fun k => ?_) h)
      · rw [dynamometerref9_more.l0, if_pos (by omega), if_pos (by omega), if_neg (by decide), decide_eq_false hx]
      · rw [dynamometerref9_more.j1, if_neg (by decide), if_pos (by omega), es]
/-- More of a bucket, by the reference. -/
theorem more_ev (x n bits : Int) (l : List S44) (hl : l.length ≤ 1000000) (hw : ∀ s ∈ l, -9223372036854775808 ≤ s.f1 + n ∧ s.f1 + n < 9223372036854775808) : Ev (fun k => dynamometerref9_more.f k bits l x n) (bits, moreF x n l) := by
  unfold moreF
  by_cases h0 : n = 0
  · have h := more_done x n bits l hl l.length 0 [] (by omega) (by simp)
    rw [if_pos h0]
    refine Ev.congr (fun k => ?_) h
    unfold dynamometerref9_more.f
    rw [h0]
    rfl
  · have h := more_loop x n bits l hl hw l.length 0 [] (by omega) (by simp)
    rw [if_neg h0]
    refine Ev.congr (fun k => ?_) h
    unfold dynamometerref9_more.f
    rw [beq_eq_false_iff_ne.2 h0]
    rfl
end Go.Proofs.YtlkameeaaplonaaDoor

/- Merge and Minus by the reference. Conditions: the buckets are in 64 bits. -/
namespace Go.Proofs.YtlkameeaaplonaaDoor
open Go.RowKit Go.Proofs.YtlkameeaaplonaaDoor.QMeasureMergeMatchesSpec Go.Proofs.YtlkameeaaplonaaDoorW.PrintWords Go.Proofs.YtlkameeaaplonaaDoorW.PrintLast Go.Proofs.YtlkameeaaplonaaDoorW.PrintMore
set_option linter.unusedVariables false
abbrev ok64 (l : List S44) : Prop := ∀ s ∈ l, s.f0 ≤ 9223372036854775807
/-- What both find wrong with two histograms. -/
theorem both_all (a b : Int) (la lb : List S44) (ha : ok64 la) (hb : ok64 lb) : ∃ e : Int, Ev (fun k => measure_checkBoth.f k a la b lb) e ∧ Ev (fun k => dynamometerref9_pairFault.f k a la b lb) e ∧ (0 ≤ e ∧ e ≤ 20) ∧
    (e = 0 ↔ ∃ n : Nat, a = (n : Int) ∧ b = (n : Int) ∧ Valid n la ∧ Valid n lb) := by
  obtain ⟨e1, ⟨K1, m1⟩, ⟨R1, r1⟩, g1, v1⟩ := chk_all a la ha
  obtain ⟨e2, ⟨K2, m2⟩, ⟨R2, r2⟩, g2, v2⟩ := chk_all b lb hb
  by_cases h1 : e1 = 0
  · by_cases h2 : e2 = 0
    · obtain ⟨n, hn, hv⟩ := v1.1 h1
      obtain ⟨n', hn', hv'⟩ := v2.1 h2
      by_cases h3 : a = b
      · refine ⟨0, ⟨K1 + K2, fun k hk => ?_⟩, ⟨R1 + R2, fun k hk => ?_⟩, by decide, fun _ => ⟨n, hn, by rw [← h3]; exact hn, hv, ?_⟩, fun _ => rfl⟩
        · have f1 := m1 k (by omega)
          have f2 := m2 k (by omega)
          simp only at f1 f2 ⊢
          unfold measure_checkBoth.f
          rw [f1, Option.bind_some, if_pos h1, f2, Option.bind_some, if_pos h2, if_pos h3]
        · have f1 := r1 k (by omega)
          have f2 := r2 k (by omega)
          simp only at f1 f2 ⊢
          unfold dynamometerref9_pairFault.f
          rw [f1, Option.bind_some, if_pos h1, f2, Option.bind_some, if_pos h2, if_pos h3]
        · have : n' = n := by omega
          rw [← this]
          exact hv'
      · refine ⟨2, ⟨K1 + K2, fun k hk => ?_⟩, ⟨R1 + R2, fun k hk => ?_⟩, by decide, fun h => absurd h (by decide), fun ⟨m, h4, h5, _⟩ => absurd (h4.trans h5.symm) h3⟩
        · have f1 := m1 k (by omega)
          have f2 := m2 k (by omega)
          simp only at f1 f2 ⊢
          unfold measure_checkBoth.f
          rw [f1, Option.bind_some, if_pos h1, f2, Option.bind_some, if_pos h2, if_neg h3]
        · have f1 := r1 k (by omega)
          have f2 := r2 k (by omega)
          simp only at f1 f2 ⊢
          unfold dynamometerref9_pairFault.f
          rw [f1, Option.bind_some, if_pos h1, f2, Option.bind_some, if_pos h2, if_neg h3]
    · refine ⟨e2, ⟨K1 + K2, fun k hk => ?_⟩, ⟨R1 + R2, fun k hk => ?_⟩, g2, fun h => absurd h h2, fun ⟨m, _, h5, _, h6⟩ => v2.2 ⟨m, h5, h6⟩⟩
      · have f1 := m1 k (by omega)
        have f2 := m2 k (by omega)
        simp only at f1 f2 ⊢
        unfold measure_checkBoth.f
        rw [f1, Option.bind_some, if_pos h1, f2, Option.bind_some, if_neg h2]
      · have f1 := r1 k (by omega)
        have f2 := r2 k (by omega)
        simp only at f1 f2 ⊢
        unfold dynamometerref9_pairFault.f
        rw [f1, Option.bind_some, if_pos h1, f2, Option.bind_some, if_neg h2]
  · refine ⟨e1, ⟨K1 + K2, fun k hk => ?_⟩, ⟨R1 + R2, fun k hk => ?_⟩, g1, fun h => absurd h h1, fun ⟨m, h4, _, h6, _⟩ => v1.2 ⟨m, h4, h6⟩⟩
    · have f1 := m1 k (by omega)
      simp only at f1 ⊢
      unfold measure_checkBoth.f
      rw [f1, Option.bind_some, if_neg h1]
    · have f1 := r1 k (by omega)
      simp only at f1 ⊢
      unfold dynamometerref9_pairFault.f
      rw [f1, Option.bind_some, if_neg h1]
theorem tot_moreL (x n : Int) : ∀ l : List S44, tot (moreL x n l) = tot l + n
  | [] => by simp [moreL, tot]
  | s :: r => by
    have ih := tot_moreL x n r
    rw [moreL]
    split
    · split
      · show s.f1 + n + tot r = s.f1 + tot r + n
        omega
      · show n + (s.f1 + tot r) = s.f1 + tot r + n
        omega
    · show s.f1 + tot (moreL x n r) = s.f1 + tot r + n
      omega
theorem tot_moreF (x n : Int) (l : List S44) : tot (moreF x n l) = tot l + n := by
  unfold moreF
  split
  · omega
  · exact tot_moreL x n l
theorem moreF_f0' {x n : Int} {l : List S44} {P : Int → Prop} (hx : P x) (h : ∀ s ∈ l, P s.f0) : ∀ s ∈ moreF x n l, P s.f0 := fun s hs' => by
  unfold moreF at hs'
  split at hs'
  · exact h s hs'
  · rcases moreL_mem x n s l hs' with e | ⟨t, ht, e⟩
    · rw [e]
      exact hx
    · rw [← e]
      exact h t ht
abbrev Plc (b : Nat) (x : Int) : Prop := ∃ a : Nat, x = (a : Int) ∧ a ≤ (50 - b) * 2 ^ (b - 1) + (2 * 2 ^ (b - 1) - 1)
theorem hsT0 {b : Nat} {l : List S44} (h : Valid b l) (k : Nat) (y : Int) : 0 ≤ hs (l.take k) y := hs_nonneg y _ (fun s hs' => by have := h.pos s (List.mem_of_mem_take hs'); omega)
theorem hsT1 {b : Nat} {l : List S44} (h : Valid b l) (k : Nat) (y : Int) : hs (l.take k) y ≤ tot l := by
  have h1 := hs_le_tot y (l.take k) (fun s hs' => by have := h.pos s (List.mem_of_mem_take hs'); omega)
  have h2 := tot_take_le l k (fun s hs' => by have := h.pos s hs'; omega)
  omega
theorem hsV {b : Nat} {l : List S44} (h : Valid b l) (y : Int) : 0 ≤ hs l y ∧ hs l y ≤ tot l :=
  ⟨hs_nonneg y l (fun s hs' => by have := h.pos s hs'; omega), hs_le_tot y l (fun s hs' => by have := h.pos s hs'; omega)⟩
theorem hsTake (l : List S44) (k : Nat) (hk : k < l.length) (y : Int) : hs (l.take (k + 1)) y = hs (l.take k) y + if (rd_T44 l (k : Int)).f0 = y then (rd_T44 l (k : Int)).f1 else 0 := by
  have htk : l.take (k + 1) = l.take k ++ [rd_T44 l (k : Int)] := by rw [List.take_succ_eq_append_getElem hk, rd44 hk]
  rw [htk, hs_snoc]
theorem merge_loop {b : Nat} {la lb : List S44} (hA : Valid b la) (hB : Valid b lb) : ∀ (d i : Nat) (acc : List S44), i + d = lb.length → IsH (fun y => hs la y + hs (lb.take i) y) (la.length + i) acc → tot acc = tot la + tot (lb.take i) → (∀ s ∈ acc, Plc b s.f0) →
    ∃ r, Ev (fun k => dynamometerref9_Merge.l0 k (i : Int) (b : Int) lb (b : Int) acc) ((b : Int), r, 0) ∧ IsHist (fun y => hs la y + hs lb y) r ∧ tot r = tot la + tot lb ∧ ∀ s ∈ r, Plc b s.f0 := by
  have hl1 := valid_len hA
  have hl2 := valid_len hB
  have hta := hA.total
  have htb := hB.total
  intro d
  induction d with
  | zero =>
    intro i acc hi hH ht hp
    have e : i = lb.length := by omega
    subst e
    rw [List.take_length] at hH ht
    refine ⟨acc, Ev.step (f := fun _ => some ((b : Int), acc, 0)) (fun k => ?_) (Ev.now _), hH.hist, ht, hp⟩
    rw [dynamometerref9_Merge.l0, if_neg (by omega)]
  | succ d ih =>
    intro i acc hi hH ht hp
    have hil : i < lb.length := by omega
    have hin := rd44_mem hil
    have hsb := valid_bound hB _ hin
    have hbd := isH_bound' hH (B := 1125899906842624 + 1125899906842624) (fun y => by have h1 := (hsV hA y).2; have h2 := hsT1 hB i y; omega)
    obtain ⟨K1, e1⟩ := more_ev (rd_T44 lb (i : Int)).f0 (rd_T44 lb (i : Int)).f1 (b : Int) acc (by have := hH.len; omega) (fun s hs' => by have := hbd s hs'; omega)
    have hH' := isH_more hH (fun y => by have h1 := (hsV hA y).1; have h2 := hsT0 hB i y; omega) (rd_T44 lb (i : Int)).f0 (rd_T44 lb (i : Int)).f1 (by omega)
    obtain ⟨r, ⟨K2, e2⟩, h1, h2, h3⟩ := ih (i + 1) (moreF (rd_T44 lb (i : Int)).f0 (rd_T44 lb (i : Int)).f1 acc) (by omega) ⟨hH'.hist.congr (fun y => by rw [hsTake lb i hil]; omega), by have := hH'.len; omega⟩
      (by rw [tot_moreF, tot_succ hil]; omega) (moreF_f0' (P := Plc b) (hB.place _ hin) hp)
    refine ⟨r, ⟨K1 + K2 + 1, fun k hk => ?_⟩, h1, h2, h3⟩
    obtain ⟨k, rfl⟩ : ∃ n, k = n + 1 := ⟨k - 1, by omega⟩
    have f1 := e1 k (by omega)
    have f2 := e2 k (by omega)
    simp only at f1 f2 ⊢
    rw [dynamometerref9_Merge.l0, if_pos (by omega), if_pos (by omega), f1, Option.bind_some, add1N i (by omega)]
    exact f2
/-- The reference's Merge of valid histograms that are not too many together. -/
theorem rmerge_ev {b : Nat} {la lb : List S44} (hA : Valid b la) (hB : Valid b lb) (ht : tot la + tot lb ≤ 1125899906842624) (hpf : Ev (fun k => dynamometerref9_pairFault.f k (b : Int) la (b : Int) lb) 0) :
    ∃ m, Ev (fun k => dynamometerref9_Merge.f k (b : Int) la (b : Int) lb) ((b : Int), m, 0) ∧ IsHist (fun y => hs la y + hs lb y) m ∧ Valid b m := by
  have hl1 := valid_len hA
  have hl2 := valid_len hB
  have t0 := tot_nonneg la (fun s hs' => by have := hA.pos s hs'; omega)
  have u0 := tot_nonneg lb (fun s hs' => by have := hB.pos s hs'; omega)
  obtain ⟨m, ⟨K1, e1⟩, h1, h2, h3⟩ := merge_loop hA hB lb.length 0 la (by omega) ⟨(isHist_hs hA.rising (fun s hs' => by have := hA.pos s hs'; omega)).congr (fun y => by simp [hs]), by omega⟩ (by simp [tot]) hA.place
  obtain ⟨K2, e2⟩ := hpf
  obtain ⟨K3, e3⟩ := rtotal_ev (b : Int) hA.pos hA.total (by omega)
  obtain ⟨K4, e4⟩ := rtotal_ev (b : Int) hB.pos hB.total (by omega)
  obtain ⟨K5, e5⟩ := more_ev 0 0 (b : Int) la (by omega) (fun s hs' => by have := valid_bound hA s hs'; omega)
  refine ⟨m, ⟨K1 + K2 + K3 + K4 + K5, fun k hk => ?_⟩, h1, hA.b2, hA.b8, h1.rising, fun s hs' => by have := h1.pos s hs'; omega, h3, by omega⟩
  have f1 := e1 k (by omega)
  have f2 := e2 k (by omega)
  have f3 := e3 k (by omega)
  have f4 := e4 k (by omega)
  have f5 := e5 k (by omega)
  simp only at f1 f2 f3 f4 f5 ⊢
  unfold dynamometerref9_Merge.f
  rw [f2, Option.bind_some, if_pos rfl, f3, Option.bind_some, f4, Option.bind_some, w64 (by omega) (by omega), if_neg (by omega), f5, Option.bind_some]
  have e : moreF 0 0 la = la := by unfold moreF; rw [if_pos rfl]
  rw [e]
  exact f1
theorem rmerge_size {b : Nat} {la lb : List S44} (hA : Valid b la) (hB : Valid b lb) (ht : 1125899906842624 < tot la + tot lb) (hpf : Ev (fun k => dynamometerref9_pairFault.f k (b : Int) la (b : Int) lb) 0) :
    Ev (fun k => dynamometerref9_Merge.f k (b : Int) la (b : Int) lb) (0, [], 3) := by
  have hl1 := valid_len hA
  have hl2 := valid_len hB
  have t0 := tot_nonneg la (fun s hs' => by have := hA.pos s hs'; omega)
  have u0 := tot_nonneg lb (fun s hs' => by have := hB.pos s hs'; omega)
  have t1 := hA.total
  have u1 := hB.total
  obtain ⟨K2, e2⟩ := hpf
  obtain ⟨K3, e3⟩ := rtotal_ev (b : Int) hA.pos hA.total (by omega)
  obtain ⟨K4, e4⟩ := rtotal_ev (b : Int) hB.pos hB.total (by omega)
  refine ⟨K2 + K3 + K4, fun k hk => ?_⟩
  have f2 := e2 k (by omega)
  have f3 := e3 k (by omega)
  have f4 := e4 k (by omega)
  simp only at f2 f3 f4 ⊢
  unfold dynamometerref9_Merge.f
  rw [f2, Option.bind_some, if_pos rfl, f3, Option.bind_some, f4, Option.bind_some, w64 (by omega) (by omega), if_pos (by omega)]
/-- in: how many there are in a bucket. -/
theorem in_ev (bits x : Int) (l : List S44) (hr : (l.map (·.f0)).Pairwise (· < ·)) (hl : l.length ≤ 1000000) : Ev (fun k => dynamometerref9_in.f k bits l x) (hs l x) := by
  have key : ∀ (d i : Nat), i + d = l.length → Ev (fun k => dynamometerref9_in.l0 k x (i : Int) bits l) (hs (l.drop i) x) := by
    intro d
    induction d with
    | zero =>
      intro i hi
      rw [List.drop_of_length_le (by omega)]
      refine Ev.step (f := fun _ => some 0) (fun k => ?_) (Ev.now _)
      rw [dynamometerref9_in.l0, if_neg (by omega)]
    | succ d ih =>
      intro i hi
      have hil : i < l.length := by omega
      have hd : l.drop i = rd_T44 l (i : Int) :: l.drop (i + 1) := by rw [rd44 hil]; exact List.drop_eq_getElem_cons hil
      have hr' : ((l.drop i).map (·.f0)).Pairwise (· < ·) := by rw [List.map_drop]; exact hr.sublist (List.drop_sublist _ _)
      by_cases he : (rd_T44 l (i : Int)).f0 = x
      · have h1 := hs_mem (l.drop i) hr' (rd_T44 l (i : Int)) (by rw [hd]; simp)
        rw [he] at h1
        rw [h1]
        refine Ev.step (f := fun _ => some (rd_T44 l (i : Int)).f1) (fun k => ?_) (Ev.now _)
        rw [dynamometerref9_in.l0, if_pos (by omega), if_pos (by omega), if_pos he]
      · rw [hd, hs, if_neg he, Int.zero_add]
        refine Ev.step (fun k => ?_) (ih (i + 1) (by omega))
        rw [dynamometerref9_in.l0, if_pos (by omega), if_pos (by omega), if_neg he, add1N i (by omega)]
  exact Ev.congr (fun k => rfl) (key l.length 0 (by omega))
/-- What is left of a histogram. -/
def lessL (lb : List S44) : List S44 → List S44
  | [] => []
  | s :: r => if s.f1 - hs lb s.f0 > 0 then ⟨s.f0, s.f1 - hs lb s.f0⟩ :: lessL lb r else lessL lb r
theorem lessL_snoc (lb : List S44) (s : S44) : ∀ l : List S44, lessL lb (l ++ [s]) = lessL lb l ++ if s.f1 - hs lb s.f0 > 0 then [⟨s.f0, s.f1 - hs lb s.f0⟩] else []
  | [] => by simp only [List.nil_append, lessL]
  | t :: r => by
    simp only [List.cons_append, lessL, lessL_snoc lb s r]
    split <;> simp
theorem lessL_len (lb : List S44) : ∀ l : List S44, (lessL lb l).length ≤ l.length
  | [] => Nat.le_refl _
  | s :: r => by
    have := lessL_len lb r
    simp only [lessL]
    split <;> simp <;> omega
theorem lessL_mem (lb : List S44) (u : S44) : ∀ l : List S44, u ∈ lessL lb l ↔ ∃ s ∈ l, u.f0 = s.f0 ∧ u.f1 = s.f1 - hs lb s.f0 ∧ 0 < u.f1
  | [] => by simp [lessL]
  | s :: r => by
    have ih := lessL_mem lb u r
    simp only [lessL]
    split
    · rename_i h
      rw [List.mem_cons, ih]
      constructor
      · rintro (rfl | ⟨t, ht, e⟩)
        · exact ⟨s, by simp, rfl, rfl, h⟩
        · exact ⟨t, by simp [ht], e⟩
      · rintro ⟨t, ht, e1, e2, e3⟩
        rcases List.mem_cons.1 ht with rfl | ht
        · left
          obtain ⟨a, b⟩ := u
          simp at e1 e2
          rw [e1, e2]
        · exact .inr ⟨t, ht, e1, e2, e3⟩
    · rename_i h
      rw [ih]
      constructor
      · rintro ⟨t, ht, e⟩
        exact ⟨t, by simp [ht], e⟩
      · rintro ⟨t, ht, e1, e2, e3⟩
        rcases List.mem_cons.1 ht with rfl | ht
        · omega
        · exact ⟨t, ht, e1, e2, e3⟩
theorem lessL_rising (lb : List S44) : ∀ l : List S44, (l.map (·.f0)).Pairwise (· < ·) → ((lessL lb l).map (·.f0)).Pairwise (· < ·)
  | [], _ => by simp [lessL]
  | s :: r, h => by
    rw [List.map_cons, List.pairwise_cons] at h
    have ih := lessL_rising lb r h.2
    simp only [lessL]
    split
    · rw [List.map_cons, List.pairwise_cons]
      refine ⟨fun y hy => ?_, ih⟩
      obtain ⟨u, hu, rfl⟩ := List.mem_map.1 hy
      obtain ⟨t, ht, e, _⟩ := (lessL_mem lb u r).1 hu
      rw [e]
      exact h.1 _ (List.mem_map.2 ⟨t, ht, rfl⟩)
    · exact ih
theorem lessL_hist {la lb : List S44} (hr : (la.map (·.f0)).Pairwise (· < ·)) (h0 : ∀ y, 0 ≤ hs lb y) : IsHist (fun y => hs la y - hs lb y) (lessL lb la) :=
  ⟨lessL_rising lb la hr, fun u => by
    rw [lessL_mem]
    constructor
    · rintro ⟨s, hs', e1, e2, e3⟩
      have := hs_mem la hr s hs'
      exact ⟨by rw [e1, this, e2], e3⟩
    · rintro ⟨h1, h2⟩
      have h3 := h0 u.f0
      obtain ⟨s, hs', e⟩ := hs_pos u.f0 la (by omega)
      have h4 := hs_mem la hr s hs'
      rw [e] at h4
      exact ⟨s, hs', e.symm, by rw [e]; omega, h2⟩⟩
theorem minus_l1 {b : Nat} {la lb : List S44} (hA : Valid b la) (hB : Valid b lb) : ∀ (d i : Nat), i + d = la.length →
    Ev (fun k => dynamometerref9_Minus.l1 k (i : Int) (b : Int) la (b : Int) lb (b : Int) (lessL lb (la.take i))) ((b : Int), lessL lb la, 0) := by
  have hl1 := valid_len hA
  have hl2 := valid_len hB
  intro d
  induction d with
  | zero =>
    intro i hi
    rw [List.take_of_length_le (by omega)]
    refine Ev.step (f := fun _ => some ((b : Int), lessL lb la, 0)) (fun k => ?_) (Ev.now _)
    rw [dynamometerref9_Minus.l1, if_neg (by omega)]
  | succ d ih =>
    intro i hi
    have hil : i < la.length := by omega
    have hin := rd44_mem hil
    have hsb := valid_bound hA _ hin
    have hv := hsV hB (rd_T44 la (i : Int)).f0
    have htb := hB.total
    have hw : wrap64 ((rd_T44 la (i : Int)).f1 - hs lb (rd_T44 la (i : Int)).f0) = (rd_T44 la (i : Int)).f1 - hs lb (rd_T44 la (i : Int)).f0 := w64 (by omega) (by omega)
    obtain ⟨K1, e1⟩ := in_ev (b : Int) (rd_T44 la (i : Int)).f0 lb hB.rising (by omega)
    obtain ⟨K2, e2⟩ := ih (i + 1) (by omega)
    have htk : la.take (i + 1) = la.take i ++ [rd_T44 la (i : Int)] := by rw [List.take_succ_eq_append_getElem hil, rd44 hil]
    have hlen := lessL_len lb (la.take i)
    rw [List.length_take] at hlen
    rw [htk, lessL_snoc] at e2
    refine ⟨K1 + K2 + 1, fun k hk => ?_⟩
    obtain ⟨k, rfl⟩ : ∃ n, k = n + 1 := ⟨k - 1, by omega⟩
    have f1 := e1 k (by omega)
    have f2 := e2 k (by omega)
    simp only at f1 f2 ⊢
    rw [dynamometerref9_Minus.l1, if_pos (by omega), if_pos (by omega), f1, Option.bind_some, hw, add1N i (by omega)]
    by_cases h : (rd_T44 la (i : Int)).f1 - hs lb (rd_T44 la (i : Int)).f0 > 0
    · rw [if_pos h, if_pos (by omega)]
      rw [if_pos h] at f2
      exact f2
    · rw [if_neg h]
      rw [if_neg h, List.append_nil] at f2
      exact f2
theorem minus_l0 {b : Nat} {la lb : List S44} (hA : Valid b la) (hB : Valid b lb) : ∀ (d i : Nat), i + d = lb.length → (∀ j : Nat, j < i → (rd_T44 lb (j : Int)).f1 ≤ hs la (rd_T44 lb (j : Int)).f0) →
    (Ev (fun k => dynamometerref9_Minus.l0 k (i : Int) (b : Int) la (b : Int) lb) (0, [], 9) ∧ ∃ s ∈ lb, hs la s.f0 < s.f1) ∨
    (Ev (fun k => dynamometerref9_Minus.l0 k (i : Int) (b : Int) la (b : Int) lb) ((b : Int), lessL lb la, 0) ∧ ∀ s ∈ lb, s.f1 ≤ hs la s.f0) := by
  have hl1 := valid_len hA
  have hl2 := valid_len hB
  intro d
  induction d with
  | zero =>
    intro i hi hle
    right
    refine ⟨Ev.step (fun k => ?_) (minus_l1 hA hB la.length 0 (by omega)), fun s hs' => ?_⟩
    · rw [dynamometerref9_Minus.l0, if_neg (by omega)]
      rfl
    · obtain ⟨j, hj, rfl⟩ := List.mem_iff_getElem.1 hs'
      have := hle j (by omega)
      rwa [rd44 hj] at this
  | succ d ih =>
    intro i hi hle
    have hil : i < lb.length := by omega
    have hin := rd44_mem hil
    obtain ⟨K1, e1⟩ := in_ev (b : Int) (rd_T44 lb (i : Int)).f0 la hA.rising (by omega)
    by_cases h : hs la (rd_T44 lb (i : Int)).f0 < (rd_T44 lb (i : Int)).f1
    · left
      refine ⟨⟨K1 + 1, fun k hk => ?_⟩, _, hin, h⟩
      obtain ⟨k, rfl⟩ : ∃ n, k = n + 1 := ⟨k - 1, by omega⟩
      have f1 := e1 k (by omega)
      simp only at f1 ⊢
      rw [dynamometerref9_Minus.l0, if_pos (by omega), if_pos (by omega), f1, Option.bind_some, if_pos h]
    · have hstep : ∀ r, Ev (fun k => dynamometerref9_Minus.l0 k ((i + 1 : Nat) : Int) (b : Int) la (b : Int) lb) r → Ev (fun k => dynamometerref9_Minus.l0 k (i : Int) (b : Int) la (b : Int) lb) r := fun r hr => by
        obtain ⟨K2, e2⟩ := hr
        refine ⟨K1 + K2 + 1, fun k hk => ?_⟩
        obtain ⟨k, rfl⟩ : ∃ n, k = n + 1 := ⟨k - 1, by omega⟩
        have f1 := e1 k (by omega)
        have f2 := e2 k (by omega)
        simp only at f1 f2 ⊢
        rw [dynamometerref9_Minus.l0, if_pos (by omega), if_pos (by omega), f1, Option.bind_some, if_neg h, add1N i (by omega)]
        exact f2
      rcases ih (i + 1) (by omega) (fun j hj => by
        rcases Nat.lt_or_ge j i with h1 | h1
        · exact hle j h1
        · obtain rfl : j = i := by omega
          omega) with ⟨h1, h2⟩ | ⟨h1, h2⟩
      · exact .inl ⟨hstep _ h1, h2⟩
      · exact .inr ⟨hstep _ h1, h2⟩
end Go.Proofs.YtlkameeaaplonaaDoor
