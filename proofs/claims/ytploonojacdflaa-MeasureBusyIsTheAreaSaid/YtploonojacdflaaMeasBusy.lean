/- Busy: what it returns of samples that are right. Conditions: its check answers 0, and the samples are within its limits. -/
import Derived.Test.YtploonojacdflaaMeasBusyA
namespace Go.Proofs.Ytploonojacdflaa.Busy
open Go.Shelf Go.RowKit Go.Maps Go.Proofs.Ytploonojacdflaa Go.Proofs.Ytploonojacdflaa.QMeasureBusyIsTheArea
open Go.Proofs.YtploonojacdflaaW.PrintWords
theorem val_at {D : DataW Unit} {x d : Int} (h : D.atKey (.int .i64 x) (.lit (.int .i64 0)) = .lit (.int .i64 d)) : val D x = d := by
  unfold val
  rw [h]
theorem info3 : (Try.prog.info? 3).map (fun i => (i.zero, i.size, i.bytes)) = some (some (.int .i64 0), 1, 8) := by kernel_rfl
theorem two_new (W : World) (g : Nat) (a b : Value) (t : TypeId) (hg : g = W.heap.size) : ∀ j u, [a, b][j]? = some u → (W.alloc (.cells #[a, b] t)).cell? ((⟨g, 0, none⟩ : Addr).add j) = some u := by
  subst hg
  intro j u hj
  rw [Addr.add_lit]
  have h := heap_alloc_new W (.cells #[a, b] t)
  match j, hj with
  | 0, hj =>
    simp at hj
    subst hj
    simp only [World.cell?, h]
    rfl
  | 1, hj =>
    simp at hj
    subst hj
    simp only [World.cell?, h]
    rfl
set_option maxRecDepth 100000 in
set_option maxHeartbeats 4000000 in
theorem busy13 (k : Nat) (A : Option Addr) (c : Nat) (l : List S45) (w : World) (hr0 : Kd.C k45 w A l.length l) (hc0 : l.length ≤ c) (hchk : measure_checkSamples.f k l = some 0) (hn : l.length ≤ 20000)
    (hb : ∀ s ∈ l, (0 ≤ s.f0 ∧ s.f0 ≤ 1000000000000) ∧ 0 ≤ s.f1 ∧ s.f1 ≤ 1000000000000) :
    Calls Try.prog 13 #[.slice A l.length c] w fun e w' => ∃ v, e = .returned (.tuple #[v, .int .i64 0]) ∧
      Kd.V k42 42 w' w.heap.size (fun k => w.heap.size ≤ k) v (outs (net l) (Lib.compact ((times l).mergeSort fun x y => decide (x ≤ y))) 0) ∧ Below w.heap.size w w' := by
  have hmm := @run_makeMap Try.prog
  obtain ⟨i0, hi, hz0, hz1, hz2⟩ := info_parts info3
  go_enter Try.func13, Try.ntmps13
  go_wp2_with (first
    | (go_at_call 28; refine (measure_checkSamples.calls k A c l 0 _ hr0 hc0 hchk).mono ?_; rintro e w1 ⟨rfl, hB1⟩)
    | go_in)
  go_loopw [6, 21] (fun v i wr => ∃ (k : Nat) (D : DataW Unit), k ≤ l.length ∧ i = .int .i64 k ∧ wr.ownsMap Try.prog 3 (plainElem Try.prog 3) w1.heap.size (2 * k) D ∧ Stepped D (l.take k) ∧
      wr.ownsInts (w1.heap.size + 1) 3 .i64 v (times (l.take k)) ∧ w1.heap.size + 1 ≤ wr.heap.size ∧ Below w1.heap.size w1 wr)
    (fun _ i _ => l.length - (intOf i).toNat)
  case atStart =>
    exact ⟨0, .map [], Nat.zero_le _, rfl, World.ownsMap_made _ _ _ _, stepped_nil, World.ownsInts_nil _ _ _ _, by simp, (Below.refl _ _).alloc (Nat.le_refl _) _⟩
  case round =>
    obtain ⟨k, D, hk, rfl, hown, hst, hvx, hs1, hB⟩ := hrel
    have hB0 : Below w.heap.size w wr := hB1.trans (Below.mono hB hB1.size)
    by_cases hlt : k < l.length
    · have hd : decide ((k : Int) < (l.length : Int)) = true := decide_eq_true (by omega)
      obtain ⟨ad, A2, c2, rfl, q0, q1, q2, q3, _, _⟩ := at_T45 (Kd.C_below hr0 hB0) (k : Int) (by omega) (by omega)
      have hin : rd_T45 l (k : Int) ∈ l := by simp [rd_T45, List.getD, List.getElem?_eq_getElem hlt]
      have htk : l.take (k + 1) = l.take k ++ [rd_T45 l (k : Int)] := by
        rw [List.take_succ_eq_append_getElem hlt]
        simp [rd_T45, List.getD, List.getElem?_eq_getElem hlt]
      rw [Int.toNat_natCast] at q0 q1 q2 q3
      generalize rd_T45 l (k : Int) = s at q0 q1 q2 q3 hin htk
      obtain ⟨⟨hs0, hs2⟩, hs3, hs4⟩ := hb s hin
      have hwk1 : (Lit.int .i64 s.f0).wf = true := WalkArith.wf_i64 (by omega)
      have hwk2 : (Lit.int .i64 (s.f0 + s.f1)).wf = true := WalkArith.wf_i64 (by omega)
      have htl : (times (l.take k)).length = 2 * k := by rw [times_length, List.length_take]; omega
      have hvb : ∀ j, u6.ownBlock = some j → w1.heap.size + 1 ≤ j ∧ j < wr.heap.size := fun j hj => hvx.1.lt j hj
      have hMlt := hown.lt
      have hml : (40002 : Nat) ≤ maxLen := by decide
      have hnb := net_bound (l.take k) (by rw [List.length_take]; omega)
      go_wp2_with (first
        | (at_builtin; refine wpList_append_own_at _ rfl _ _ 29 rfl (w1.heap.size + 1) 3 i0 (.int .i64 0) 1 8 Try.underlying29 hi hz0 hz1 hz2 rfl (by decide) _ _ _ rfl ((hvx.1.alloc _).alloc _) ⟨wr.heap.size + 1, 0, none⟩ 2 2 [.int .i64 s.f0, .int .i64 (s.f0 + s.f1)] rfl rfl (two_new _ _ _ _ _ (by simp)) (by intro u hu; rcases List.mem_cons.1 hu with rfl | hu; rfl; rw [List.mem_singleton.1 hu]; rfl) (by omega) (by omega) (by simp; omega) ?_; intro v2 w2 hvx2 hgr2 _ hat2; have hsz2 : wr.heap.size + 2 ≤ w2.heap.size := (by have := hgr2.size; simp at this; omega); have hown2 := ((hown.alloc _).alloc _).kept hgr2 (fun e => by have := hvb _ e.symm; omega); have bb2 : w2.heap[wr.heap.size]? = some (.cells #[.int .i64 s.f0, .int .i64 s.f1, .slice A2 s.f2.length c2, .bool s.f3] 45 (0, 0)) := (hgr2.block _ (by simp; omega) (fun e => by have := hvb _ e.symm; omega)).trans ((Below.heap_alloc _ _ _ (by simp)).trans (heap_alloc_new wr _)); have b20 : w2.cell? ⟨wr.heap.size, 0, none⟩ = some (.int .i64 s.f0) := (by simp only [World.cell?, bb2]; rfl); have b21 : w2.cell? ⟨wr.heap.size, 1, none⟩ = some (.int .i64 s.f1) := (by simp only [World.cell?, bb2]; rfl))
        | (at_lookup; refine wpList_lookup_own_int _ rfl _ _ 63 rfl 3 3 .i64 law3 Try.underlying63 Try.underlying3 (zero3 _) w1.heap.size (2 * k + 1) _ rfl hown3 _ _ rfl (keyOf_int_mk Try.underlying3 hwk2) ?_; intro d2 hat4 hwd2; have hd2 : Aside0 (d2 = (if s.f0 + s.f1 = s.f0 then d1 + 1 else net (l.take k) (s.f0 + s.f1))) := Aside0.mk ((val_at hat4).symm.trans ((val_put D hst.tidy.isMap _ _ _).trans (by rw [hst.val]))); have hd2b : -20001 ≤ d2 ∧ d2 ≤ 20001 := (by rw [hd2.out]; have := hnb (s.f0 + s.f1); split <;> omega); have wfd2 : (Lit.int .i64 (d2 - 1)).wf = true := WalkArith.wf_i64 (by omega))
        | (at_lookup; refine wpList_lookup_own_int _ rfl _ _ 63 rfl 3 3 .i64 law3 Try.underlying63 Try.underlying3 (zero3 _) w1.heap.size (2 * k) _ rfl hown2 _ _ rfl (keyOf_int_mk Try.underlying3 hwk1) ?_; intro d1 hat3 hwd1; have hd1 : Aside0 (d1 = net (l.take k) s.f0) := Aside0.mk ((val_at hat3).symm.trans (hst.val _)); have hd1b : -20000 ≤ d1 ∧ d1 ≤ 20000 := (by rw [hd1.out]; exact hnb _); have wfd1 : (Lit.int .i64 (d1 + 1)).wf = true := WalkArith.wf_i64 (by omega))
        | (at_mapUpdate; refine wpList_mapUpdate_own _ rfl _ _ _ 63 rfl 3 3 law3 Try.underlying63 _ w1.heap.size (2 * k + 1) _ rfl hown3 (by omega) _ _ _ rfl rfl (keyOf_int_mk Try.underlying3 hwk2) _ [] (plainElem_int Try.underlying3 wfd2) ?_; intro w4 hown4 hgr4)
        | (at_mapUpdate; refine wpList_mapUpdate_own _ rfl _ _ _ 63 rfl 3 3 law3 Try.underlying63 _ w1.heap.size (2 * k) _ rfl hown2 (by omega) _ _ _ rfl rfl (keyOf_int_mk Try.underlying3 hwk1) _ [] (plainElem_int Try.underlying3 wfd1) ?_; intro w3 hown3 hgr3; have bb3 := (hgr3.block wr.heap.size (by omega) (fun e => by have := Option.some.inj e; omega)).trans bb2; have b30 : w3.cell? ⟨wr.heap.size, 0, none⟩ = some (.int .i64 s.f0) := (by simp only [World.cell?, bb3]; rfl); have b31 : w3.cell? ⟨wr.heap.size, 1, none⟩ = some (.int .i64 s.f1) := (by simp only [World.cell?, bb3]; rfl))
        | go_in)
      have hb2 : ∀ j, v2.ownBlock = some j → w1.heap.size + 1 ≤ j := fun j hj => (hvx2.lt j hj).1
      have hsz3 := hgr3.size
      have hsz4 := hgr4.size
      refine ⟨⟨k + 1, _, by omega, by simp, (show 2 * (k + 1) = 2 * k + 1 + 1 from by omega) ▸ hown4, ?_, ?_, by omega, ?_⟩, by simp [intOf]; omega⟩
      · rw [htk]
        exact stepped_snoc hst s (d1 + 1) (d2 - 1) (by rw [hd1.out]) (by rw [hd2.out])
      · rw [htk, times_append]
        have hne : v2.ownBlock ≠ some w1.heap.size := fun e => by have := hb2 _ e; omega
        refine World.ownsInts.kept (row := some w1.heap.size) (World.ownsInts.kept (row := some w1.heap.size) ⟨by simpa [times] using hvx2, ?_⟩ hgr3 (.inr hne)) hgr4 (.inr hne)
        intro z hz
        rcases List.mem_append.1 hz with hz | hz
        · exact hvx.2 z hz
        · simp only [times, List.mem_cons, List.not_mem_nil, or_false] at hz
          rcases hz with rfl | rfl
          · exact hwk1
          · exact hwk2
      · exact ((((hB.alloc (by omega) _).alloc (by simp; omega) _).grown hgr2 (by simp; omega) (fun j hj => by have := (hvb j hj).1; omega)).grown hgr3 (by omega) (fun j hj => by have := Option.some.inj hj; omega)).grown hgr4 (by omega) (fun j hj => by have := Option.some.inj hj; omega)
    · have hke : k = l.length := by omega
      subst hke
      rw [List.take_length] at hst hvx
      have htl := times_length l
      have hw6 : ∃ A n c, u6 = .slice A n c := by
        rcases hvx.1.2 with ⟨e, _⟩ | ⟨gg, cap, cur, e, _⟩
        · exact ⟨_, _, _, e⟩
        · exact ⟨_, _, _, e⟩
      obtain ⟨A6, n6, c6, rfl⟩ := hw6
      have hvb : ∀ j, (Value.slice A6 n6 c6).ownBlock = some j → w1.heap.size + 1 ≤ j ∧ j < wr.heap.size := fun j hj => hvx.1.lt j hj
      have hMlt := hown.lt
      have hsl : ((times l).mergeSort fun x y => decide (x ≤ y)).length = 2 * l.length := by rw [List.length_mergeSort, htl]
      generalize hS : ((times l).mergeSort fun x y => decide (x ≤ y)) = S at hsl
      have HS := Aside0.mk hS
      have hcl := compact_length S
      have hsort := fun W hW => sort29 (w1.heap.size + 1) n6 c6 A6 (times l) W hW (by omega)
      rw [hS] at hsort
      go_wp2_with (first
        | (go_at_call 29; refine (hsort wr hvx).mono ?_; rintro e w5 ⟨rfl, hvx5, hgr5⟩)
        | (go_at_call 30; refine (compact30 (w1.heap.size + 1) n6 c6 A6 S w5 hvx5 (by omega)).mono ?_; rintro e w6 ⟨m6, rfl, hvx6, hgr6⟩)
        | go_in)
      have hown6 := (hown.kept hgr5 (fun e => by have := hvb _ e.symm; omega)).kept hgr6 (fun e => by have := hvb _ e.symm; omega)
      have hsz5 := hgr5.size
      have hsz6 := hgr6.size
      have hB6 : Below w1.heap.size w1 w6 := (hB.grown hgr5 (by omega) (fun j hj => by have := (hvb j hj).1; omega)).grown hgr6 (by omega) (fun j hj => by have := (hvb j hj).1; omega)
      obtain ⟨hln, hnc, _⟩ := C_own hvx6
      generalize hC : Lib.compact S = C at hvx6 hcl hln
      have HC := Aside0.mk hC
      clear hC
      subst hln
      have hCl : C.length ≤ 40000 := by omega
      clear hsort hvx hvx5 hgr5 hgr6 hown hB hvb hMlt hS hsl hB0 hs1
      go_loopw [9, 10, 54] (fun vo vn i w2 => ∃ (k : Nat), k ≤ C.length ∧ i = .int .i64 k ∧ vn = .int .i64 (fin (net l) (C.take k) 0) ∧ Kd.R k42 42 w2 w6.heap.size (fun k => w6.heap.size ≤ k) vo (outs (net l) (C.take k) 0) ∧
          w2.ownsInts (w1.heap.size + 1) 3 .i64 (.slice A6 C.length c6) C ∧ w2.ownsMap Try.prog 3 (plainElem Try.prog 3) w1.heap.size (2 * l.length) D ∧ w6.heap.size ≤ w2.heap.size ∧ Below w6.heap.size w6 w2)
        (fun _ _ i _ => C.length - (intOf i).toNat)
      case atStart => exact ⟨0, Nat.zero_le _, rfl, rfl, Kd.R_nil _ _ _ _ _, hvx6, hown6, Nat.le_refl _, Below.refl _ _⟩
      case round =>
        obtain ⟨k, hk, rfl, rfl, hR, hvx, hown, hsz, hBr⟩ := hrel
        by_cases hlt : k < C.length
        · have hd : decide ((k : Int) < (C.length : Int)) = true := decide_eq_true (by omega)
          obtain ⟨gv, rfl, hcell⟩ : ∃ gv, A6 = some ⟨gv, 0, none⟩ ∧ wr.cell? ⟨gv, k, none⟩ = some (.int .i64 (C.getD k 0)) := by
            rcases hvx.1.2 with ⟨e, h0⟩ | ⟨gg, cap, cur, e, hbg, hg, _⟩
            · omega
            · injection e with e1 e2 e3
              subst e1
              refine ⟨gg, rfl, ?_⟩
              have := hvx.1.cells (g := gg) rfl k (.int .i64 (C.getD k 0)) (by rw [List.getElem?_map, List.getElem?_eq_getElem hlt]; simp [List.getD, List.getElem?_eq_getElem hlt])
              rwa [Addr.add_lit, Nat.zero_add] at this
          have hwx : (Lit.int .i64 (C.getD k 0)).wf = true := hvx.2 _ (by simp [List.getD, List.getElem?_eq_getElem hlt])
          have htk : C.take (k + 1) = C.take k ++ [C.getD k 0] := by rw [List.take_succ_eq_append_getElem hlt]; simp [List.getD, List.getElem?_eq_getElem hlt]
          generalize C.getD k 0 = x at hcell hwx htk
          have hfb := fin_bound (net l) (net_bound l hn) (C.take k) 0
          rw [List.length_take] at hfb
          have hxb := net_bound l hn x
          have hval : val D x = net l x := hst.val x
          have hol := outs_length (net l) (C.take k) 0
          rw [List.length_take] at hol
          have hfs := fin_snoc (net l) x (C.take k) 0
          have hos := outs_snoc (net l) x (C.take k) 0
          rw [← htk] at hfs hos
          generalize fin (net l) (C.take k) 0 = nn at hfb hfs hos
          generalize outs (net l) (C.take k) 0 = oo at hR hol hos
          generalize net l x = cx at hval hxb hfs hos
          have HFS := Aside0.mk hfs
          have HOS := Aside0.mk hos
          have HVAL := Aside0.mk hval
          clear hfs hos hval
          by_cases hz : cx = 0
          · subst hz
            go_wp2_with (first
              | (at_lookup; refine wpList_lookup_own_int _ rfl _ _ 63 rfl 3 3 .i64 law3 Try.underlying63 Try.underlying3 (zero3 _) w1.heap.size (2 * l.length) _ rfl hown _ _ rfl (keyOf_int_mk Try.underlying3 hwx) ?_; intro cc hat hwc; obtain rfl : 0 = cc := (HVAL.out.symm.trans (val_at hat)))
              | go_in)
            refine ⟨⟨k + 1, by omega, by simp, ?_, ?_, hvx, hown, hsz, hBr⟩, by simp [intOf]; omega⟩
            · rw [HFS.out, Int.add_zero]
            · rw [HOS.out, if_pos rfl, List.append_nil]
              exact hR
          · go_wp2_with (first
              | (at_lookup; refine wpList_lookup_own_int _ rfl _ _ 63 rfl 3 3 .i64 law3 Try.underlying63 Try.underlying3 (zero3 _) w1.heap.size (2 * l.length) _ rfl hown _ _ rfl (keyOf_int_mk Try.underlying3 hwx) ?_; intro cc hat hwc; obtain rfl : cx = cc := (HVAL.out.symm.trans (val_at hat)))
              | ((with_reducible refine gate_builtin (b := .append) (xs := #[.tmp 67, .tmp 71]) rfl ?_); at_builtin; refine Kd.R_append k42 (w0 := wr) w6.heap.size rfl (.tmp 67) (.tmp 71) 38 42 (.agg #[.int .i64 0, .int .i64 0]) 16 rfl Try.underlying38 info42 rfl (by decide) (by omega) _ oo ⟨x, nn + cx⟩ [.int .i64 x, .int .i64 (nn + cx)] (fun k => w6.heap.size ≤ k) (fun _ => False) rfl rfl (k42_mkM _ _ _ _) (fun _ hk => hk.elim) (fun k hk => by omega) hR (Below.refl _ _) (by omega) (by omega) ?_; intro v3 w3 hR3 hB3 hg3 hat3)
              | go_in)
            have hb9 : ∀ j, u9.ownBlock = some j → w6.heap.size ≤ j := Kd.R_base hR
            have hsz3 := hg3.size
            have hne : (Value.slice (some ⟨gv, 0, none⟩) C.length c6).ownBlock ≠ u9.ownBlock := by
              intro e
              have e' : u9.ownBlock = some gv := e.symm
              obtain ⟨cells, ht⟩ := Kd.R_typed hR gv e'
              exact blk_ne_of_type hvx.1 ht (by decide) rfl
            refine ⟨⟨k + 1, by omega, by simp, by rw [HFS.out], ?_, hvx.kept hg3 (.inr hne), hown.kept hg3 (fun e => by have := hb9 _ e.symm; have := hB6.size; have := hown6.lt; omega), by omega, hBr.grown hg3 hsz hb9⟩, by simp [intOf]; omega⟩
            rw [HOS.out, if_neg hz]
            exact hR3
        · have hke : k = C.length := by omega
          subst hke
          rw [List.take_length] at hR
          obtain ⟨A9, c9, rfl⟩ := Kd.R_slice hR
          have hV : Kd.V k42 42 wr wr.heap.size (fun k => w6.heap.size ≤ k) (.slice A9 (outs (net l) C 0).length c9) (outs (net l) C 0) := Kd.R_V hR
          have hclip : api_Change.f (outs (net l) C 0) = some (outs (net l) C 0) := by simp [api_Change.f]
          go_wp2_with (first
            | (go_at_call 31; refine (api_Change.calls (fun k => w6.heap.size ≤ k) A9 c9 _ _ wr hV hclip).mono ?_; rintro e w8 ⟨v8, rfl, hV8, hB8⟩)
            | go_in)
          go_ret2
          have h16 := hB6.size
          have h01 := hB1.size
          rw [HS.out, HC.out]
          refine ⟨v8, rfl, Kd.V_mono hV8 (fun k hk => by rcases hk with hk | hk <;> omega), ?_⟩
          exact ((hB1.trans (Below.mono hB6 (by omega))).trans (Below.mono hBr (by omega))).trans (Below.mono hB8 (by omega))
/-- Busy of samples that are not right. -/
theorem busy13f (k : Nat) (A : Option Addr) (c : Nat) (l : List S45) (r : Int) (w : World) (hr0 : Kd.C k45 w A l.length l) (hc0 : l.length ≤ c) (hchk : measure_checkSamples.f k l = some r) (hr : r ≠ 0) :
    Calls Try.prog 13 #[.slice A l.length c] w fun e w' => e = .returned (.tuple #[.slice none 0 0, .int .i64 r]) ∧ Below w.heap.size w w' := by
  have hd : decide (r = 0) = false := decide_eq_false hr
  go_enter Try.func13, Try.ntmps13
  go_wp2_with (first
    | (go_at_call 28; refine (measure_checkSamples.calls k A c l r _ hr0 hc0 hchk).mono ?_; rintro e w1 ⟨rfl, hB1⟩)
    | go_in)
  go_ret2
  exact ⟨rfl, hB1⟩
end Go.Proofs.Ytploonojacdflaa.Busy
