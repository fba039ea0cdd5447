/- A tally's histogram: the counts of its buckets, rising, of those that have any. Condition: at most a million buckets. -/
import Derived.Test.YtlkameeaaplonaaDoorMeasPut
import Derived.Test.YtlkameeaaplonaaDoorMeasA
import Derived.Test.YtlkameeaaplonaaDoorQMeasureMergeIsTogetherx3
import Derived.Maps.RangeWalk
import Derived.Maps.OwnOps
import Derived.WalkKit
namespace Go.Proofs.YtlkameeaaplonaaDoor
open Go.Shelf Go.RowKit Go.Maps Go.Proofs.YtlkameeaaplonaaDoor.QMeasureMergeIsTogether
open Go.Proofs.YtlkameeaaplonaaDoorW.PrintWords
theorem law3 : Keyed Tryd.prog 3 := int_keyed Tryd.underlying3
theorem zero3 (w : World) : (zeroValue 3).run Tryd.prog w = .ok (.int .i64 0) w := by kernel_rfl
/-- The count at a bucket. -/
def val (D : DataW Unit) (x : Int) : Int := match D.atKey (.int .i64 x) (.lit (.int .i64 0)) with
  | .lit (.int _ c) => c
  | _ => 0
/-- The counts of some buckets. -/
def cnts (D : DataW Unit) : List Int → List S44
  | [] => []
  | x :: r => if 0 < val D x then ⟨x, val D x⟩ :: cnts D r else cnts D r
theorem cnts_snoc (D : DataW Unit) (x : Int) : ∀ xs : List Int, cnts D (xs ++ [x]) = cnts D xs ++ (if 0 < val D x then [⟨x, val D x⟩] else [])
  | [] => by simp only [List.nil_append, cnts]
  | y :: r => by
    simp only [List.cons_append, cnts, cnts_snoc D x r]
    split <;> simp
theorem cnts_length (D : DataW Unit) : ∀ xs : List Int, (cnts D xs).length ≤ xs.length
  | [] => Nat.le_refl _
  | x :: r => by
    simp only [cnts]
    have := cnts_length D r
    split <;> simp <;> omega
theorem sameKey_int (x y : Int) : (Lit.int .i64 x).sameKey (.int .i64 y) = (x == y) := by
  by_cases h : x = y
  · subst h
    simp [Lit.sameKey]
  · rw [sameKey_ne (by simpa using h)]
    exact (beq_eq_false_iff_ne.2 h).symm
/-- What is gathered: the keys that are no longer to come, rising. -/
structure Got (D : DataW Unit) (left : Lit → Bool) (xs : List Int) : Prop where
  rising : Rising xs
  wf : ∀ x ∈ xs, (Lit.int .i64 x).wf = true
  mem : ∀ x, x ∈ xs ↔ has D (.int .i64 x) = true ∧ left (.int .i64 x) = false
theorem blk_ne_of_type {w : World} {g t e : Nat} {cells : Array Value} {B n : Nat} {v : Value} {zs : List Value} {sz : Nat} (h : w.ownsRow B e sz v n zs) (hg : w.heap[g]? = some (.cells cells t (0, 0))) (hne : e ≠ t) : v.ownBlock ≠ some g := by
  intro he
  rcases h.2 with ⟨rfl, _⟩ | ⟨gg, cap, cur, rfl, _, h2, _⟩
  · simp [Value.ownBlock] at he
  · simp [Value.ownBlock] at he
    subst he
    rw [hg] at h2
    injection h2 with h2
    injection h2 with _ h2
    exact hne h2.symm

set_option maxRecDepth 100000 in
set_option maxHeartbeats 4000000 in
theorem hist35 (b n : Nat) (D : DataW Unit) (bits : Int) (w : World) (hown : w.ownsMap Tryd.prog 3 (plainElem Tryd.prog 3) b n D) (hsz : Maps.size D ≤ 1000000) :
    Calls Tryd.prog 39 #[.map (some b), .int .i64 bits] w fun e w' => ∃ v xs, e = .returned (.agg #[.int .i64 bits, v]) ∧ Kd.V k44 44 w' w.heap.size (fun k => w.heap.size ≤ k) v (cnts D xs) ∧ Below w.heap.size w w' ∧
      Rising xs ∧ (∀ x ∈ xs, (Lit.int .i64 x).wf = true) ∧ ∀ x, x ∈ xs ↔ has D (.int .i64 x) = true := by
  have hbl := hown.lt
  have hown3 : (((w.alloc (.cells #[.int .i64 0, .slice none 0 0] 25)).alloc (.cells #[.int .i64 bits, .slice none 0 0] 25)).alloc (.cells #[.slice none 0 0] 71)).ownsMap Tryd.prog 3 (plainElem Tryd.prog 3) b n D := ((hown.alloc _).alloc _).alloc _
  have e3 : (((w.alloc (.cells #[.int .i64 0, .slice none 0 0] 25)).alloc (.cells #[.int .i64 bits, .slice none 0 0] 25)).alloc (.cells #[.slice none 0 0] 71)).heap.size = w.heap.size + 3 := by simp
  go_enter Tryd.func39, Tryd.ntmps39
  go_wp2_with (first
    | (at_range; refine wpList_range_own _ rfl _ 58 rfl 3 3 law3 Tryd.underlying58 _ b n D rfl hown3 ?_; intro w0 hrg0 hg0 hs0)
    | go_in)
  go_frame
  rw [e3] at hrg0 hs0 ⊢
  have hB0 : Below w.heap.size w w0 := ((((Below.refl w.heap.size w).alloc (Nat.le_refl _) _).alloc (by simp) _).alloc (by simp; omega) _).grown hg0 (by simp; omega) (fun j hj => by cases hj)
  have b0 : w0.heap[w.heap.size]? = some (.cells #[.int .i64 0, .slice none 0 0] 25 (0, 0)) := (hg0.block _ (by rw [e3]; omega) (by simp)).trans ((Below.heap_alloc _ _ _ (by simp; omega)).trans ((Below.heap_alloc _ _ _ (by simp)).trans (heap_alloc_new w _)))
  have b1 : w0.heap[w.heap.size + 1]? = some (.cells #[.int .i64 bits, .slice none 0 0] 25 (0, 0)) := (hg0.block _ (by rw [e3]; omega) (by simp)).trans ((Below.heap_alloc _ _ _ (by simp)).trans (by have := heap_alloc_new (w.alloc (.cells #[.int .i64 0, .slice none 0 0] 25)) (.cells #[.int .i64 bits, .slice none 0 0] 25); simpa using this))
  have b2 : w0.heap[w.heap.size + 2]? = some (.cells #[.slice none 0 0] 71 (0, 0)) := (hg0.block _ (by rw [e3]; omega) (by simp)).trans (by have := heap_alloc_new ((w.alloc (.cells #[.int .i64 0, .slice none 0 0] 25)).alloc (.cells #[.int .i64 bits, .slice none 0 0] 25)) (.cells #[.slice none 0 0] 71); simpa using this)
  clear hg0 hown3 e3
  go_loopw [7] (fun _ wr => ∃ (left : Lit → Bool) (cnt : Nat) (v : Value) (xs : List Int), wr.ranges Tryd.prog 3 (plainElem Tryd.prog 3) b (w.heap.size + 3) n D left cnt ∧ xs.length + cnt ≤ Maps.size D ∧ Got D left xs ∧
      wr.ownsInts (w.heap.size + 4) 3 .i64 v xs ∧ wr.heap[w.heap.size]? = some (.cells #[.int .i64 0, .slice none 0 0] 25 (0, 0)) ∧ wr.heap[w.heap.size + 1]? = some (.cells #[.int .i64 bits, .slice none 0 0] 25 (0, 0)) ∧
      wr.heap[w.heap.size + 2]? = some (.cells #[v] 71 (0, 0)) ∧ w.heap.size + 4 ≤ wr.heap.size ∧ Below w.heap.size w wr)
    (fun _ wr => wr.rangeLeft b (w.heap.size + 3))
  case atStart => exact ⟨_, _, .slice none 0 0, [], hrg0, by simp, ⟨List.Pairwise.nil, by simp, fun x => by simp⟩, World.ownsInts_nil _ _ _ _, b0, b1, b2, by omega, hB0⟩
  case round =>
    obtain ⟨left, cnt, v, xs, hrg, hcs, hgot, hvx, b0, b1, b2, hs4, hB⟩ := hrel
    go_wp2_with (first
      | (at_next; refine wpList_next_ranges_ii _ rfl _ rfl 3 3 .i64 .i64 law3 Tryd.underlying3 Tryd.underlying3 b (w.heap.size + 3) n _ _ _ rfl hrg ?_ ?_)
      | go_in)
    · intro hc0 hl0
      have hmem : ∀ x, x ∈ xs ↔ has D (.int .i64 x) = true := fun x => by rw [hgot.mem, hl0]; simp
      have hrise := hgot.rising
      have hwf := hgot.wf
      have hown := hrg.owns
      have hlen : xs.length ≤ 1000000 := by omega
      clear hrg hgot hl0 hcs hc0
      obtain ⟨A, nn, c, rfl⟩ : ∃ A n c, v = .slice A n c := by
        rcases hvx.1.2 with ⟨e, _⟩ | ⟨gg, cap, cur, e, _⟩
        · exact ⟨_, _, _, e⟩
        · exact ⟨_, _, _, e⟩
      obtain ⟨hln, hnc, hC⟩ := C_own hvx
      subst hln
      have hc2 : wr.cell? ⟨w.heap.size + 1 + 1, 0, none⟩ = some (.slice A xs.length c) := by simp [World.cell?, b2]
      have hc2' : wr.cell? ⟨w.heap.size + 2, 0, none⟩ = some (.slice A xs.length c) := hc2
      go_wp2
      go_loopw [23] (fun i w2 => ∃ (k : Nat) (v2 : Value), k ≤ xs.length ∧ i = .int .i64 k ∧ Kd.R k44 44 w2 (w.heap.size + 4) (fun k => w.heap.size + 4 ≤ k) v2 (cnts D (xs.take k)) ∧
          w2.heap[w.heap.size]? = some (.cells #[.int .i64 0, .slice none 0 0] 25 (0, 0)) ∧ w2.heap[w.heap.size + 1]? = some (.cells #[.int .i64 bits, v2] 25 (0, 0)) ∧ w2.ownsInts (w.heap.size + 4) 3 .i64 (.slice A xs.length c) xs ∧
          w2.ownsMap Tryd.prog 3 (plainElem Tryd.prog 3) b n D ∧ w.heap.size + 4 ≤ w2.heap.size ∧ Below w.heap.size w w2)
        (fun i _ => xs.length - (intOf i).toNat)
      case atStart => exact ⟨0, .slice none 0 0, Nat.zero_le _, rfl, Kd.R_nil _ _ _ _ _, b0, b1, hvx, hown, hs4, hB⟩
      case round =>
        clear b0 b1 b2 hB hs4 hvx hown hc2 hc2'
        obtain ⟨k, v2, hk, rfl, hR, b0, b1, hvx, hown, hs4, hB⟩ := hrel
        by_cases hlt : k < xs.length
        · have hd : decide ((k : Int) < (xs.length : Int)) = true := decide_eq_true (by omega)
          obtain ⟨gv, rfl, hcell⟩ : ∃ gv, A = some ⟨gv, 0, none⟩ ∧ wr.cell? ⟨gv, k, none⟩ = some (.int .i64 (xs.getD k 0)) := by
            rcases hvx.1.2 with ⟨e, h0⟩ | ⟨gg, cap, cur, e, hbg, hg, _⟩
            · omega
            · injection e with e1 e2 e3
              subst e1
              refine ⟨gg, rfl, ?_⟩
              have := hvx.1.cells (g := gg) rfl k (.int .i64 (xs.getD k 0)) (by rw [List.getElem?_map, List.getElem?_eq_getElem hlt]; simp [List.getD, List.getElem?_eq_getElem hlt])
              rwa [Addr.add_lit, Nat.zero_add] at this
          have hcell' : wr.cell? ⟨gv, 0 + k, none⟩ = some (.int .i64 (xs.getD k 0)) := by rw [Nat.zero_add]; exact hcell
          have hv2 : ∃ A n c, v2 = .slice A n c := by
            obtain ⟨A, c, e⟩ := Kd.R_slice hR
            exact ⟨A, _, c, e⟩
          obtain ⟨A2, n2, c2, rfl⟩ := hv2
          have hcb : wr.cell? ⟨w.heap.size + 1, 1, none⟩ = some (.slice A2 n2 c2) := by simp [World.cell?, b1]
          have hfb : wr.frozen? ⟨w.heap.size + 1, 1, none⟩ = false := by simp [World.frozen?, b1]
          obtain ⟨x, hx⟩ : ∃ x, x = xs.getD k 0 := ⟨_, rfl⟩
          rw [← hx] at hcell hcell'
          have hxm : x ∈ xs := by rw [hx]; simp [List.getD, List.getElem?_eq_getElem hlt]
          have hwx := hwf x hxm
          have htk : xs.take (k + 1) = xs.take k ++ [x] := by rw [List.take_succ_eq_append_getElem hlt, hx]; simp [List.getD, List.getElem?_eq_getElem hlt]
          clear hx
          have hat0 : D.atKey (.int .i64 x) (.lit (.int .i64 0)) = .lit (.int .i64 (val D x)) := by
            obtain ⟨c0, _, h0, _⟩ := hown.lookup_int law3 Tryd.underlying58 Tryd.underlying3 (zero3 _) (keyOf_int_mk Tryd.underlying3 hwx)
            unfold val
            rw [h0]
          go_wp2_with (first
            | (at_lookup; refine wpList_lookup_own_int _ rfl _ _ 58 rfl 3 3 .i64 law3 Tryd.underlying58 Tryd.underlying3 (zero3 _) b n _ rfl hown _ _ rfl (keyOf_int_mk Tryd.underlying3 hwx) ?_; intro cc hat hwc; obtain rfl : val D x = cc := (by rw [hat0] at hat; simpa using hat))
            | ((with_reducible refine gate_builtin (b := .append) (xs := #[.tmp 32, .tmp 38]) rfl ?_); at_builtin; refine Kd.R_append k44 (w0 := wr) (w.heap.size + 4) rfl (.tmp 32) (.tmp 38) 23 44 (.agg #[.int .i64 0, .int .i64 0]) 16 rfl Tryd.underlying23 info44 rfl (by decide) (by omega) (.slice A2 n2 c2) (cnts D (xs.take k)) ⟨x, val D x⟩ [.int .i64 x, .int .i64 (val D x)] (fun k => w.heap.size + 4 ≤ k) (fun _ => False) rfl rfl (k44_mkM _ _ _ _) (fun _ hk => hk.elim) (fun k hk => by omega) hR (Below.refl _ _) (by omega) (by have := cnts_length D (xs.take k); rw [List.length_take] at this; omega) ?_; intro v3 w3 hR3 hB3 hg3 hat3; obtain ⟨A3, c3, rfl⟩ := Kd.R_slice hR3; have d1 := (hg3.block (w.heap.size + 1) (by omega) (fun e => by have := Kd.R_base hR _ e.symm; omega)).trans b1; have hcb3 : w3.cell? ⟨w.heap.size + 1, 1, none⟩ = some (.slice A2 n2 c2) := (by simp [World.cell?, d1]); have hfb3 : w3.frozen? ⟨w.heap.size + 1, 1, none⟩ = false := (by simp [World.frozen?, d1]))
            | go_in)
          · have hpos : 0 < val D x := by assumption
            have hgs : w3.grownBy (w3.setCell ⟨w.heap.size + 1, 1, none⟩ (.slice A3 ((cnts D (xs.take k)).length + 1) c3)) (some (w.heap.size + 1)) := ⟨rfl, rfl, rfl, by simp [World.setCell], fun j _ hne => heap_setCell_other w3 _ j _ (fun e => hne (by rw [e]))⟩
            have hgvne : ∀ j, (Value.slice A2 n2 c2).ownBlock = some j → gv ≠ j := by
              intro j hj e
              obtain ⟨cells, ht⟩ := Kd.R_typed hR j hj
              exact blk_ne_of_type hvx.1 ht (by decide) (by subst e; rfl)
            have hgv4 := (hvx.1.lt gv rfl).1
            have e2 : w3.heap.size ≤ (w3.setCell ⟨w.heap.size + 1, 1, none⟩ (.slice A3 ((cnts D (xs.take k)).length + 1) c3)).heap.size := hgs.size
            have hsz3 := hg3.size
            refine ⟨⟨k + 1, .slice A3 ((cnts D (xs.take k)).length + 1) c3, by omega, by simp, ?_, (hgs.block _ (by omega) (fun e => by have := Option.some.inj e; omega)).trans ((hg3.block _ (by omega) (fun e => by have := Kd.R_base hR _ e.symm; omega)).trans b0), ?_, ?_, ?_, by omega, ?_⟩, by simp [intOf]; omega⟩
            rotate_left
            · have := heap_setCell_same w3 (w.heap.size + 1) 1 _ 25 (.slice A3 ((cnts D (xs.take k)).length + 1) c3) d1
              simpa using this
            · exact (hvx.kept hg3 (.inr (fun e => hgvne gv e.symm rfl))).kept hgs (.inr (fun e => by have e' : some gv = some (w.heap.size + 1) := e; have := Option.some.inj e'; omega))
            · exact (hown.kept hg3 (fun e => by have := Kd.R_base hR _ e.symm; omega)).kept hgs (fun e => by have := Option.some.inj e; omega)
            · exact (hB.grown hg3 (by omega) (fun j hj => by have := Kd.R_base hR _ hj; omega)).grown hgs (by omega) (fun j hj => by have := Option.some.inj hj; omega)
            · rw [htk, cnts_snoc, if_pos hpos]
              rw [List.length_append] at hR3
              exact Kd.R_grown hR3 hgs (fun j hj e => by have := Option.some.inj e; omega)
          · have hneg : ¬ 0 < val D x := by omega
            refine ⟨⟨k + 1, .slice A2 n2 c2, by omega, by simp, ?_, b0, b1, hvx, hown, hs4, hB⟩, by simp [intOf]; omega⟩
            rw [htk, cnts_snoc, if_neg hneg, List.append_nil]
            exact hR
        · have hke : k = xs.length := by omega
          subst hke
          rw [List.take_length] at hR
          have hv2 : ∃ A c, v2 = .slice A (cnts D xs).length c := Kd.R_slice hR
          obtain ⟨A2, c2, rfl⟩ := hv2
          have hcb : wr.cell? ⟨w.heap.size + 1, 1, none⟩ = some (.slice A2 (cnts D xs).length c2) := by simp [World.cell?, b1]
          have hV : Kd.V k44 44 wr wr.heap.size (fun k => w.heap.size + 4 ≤ k) (.slice A2 (cnts D xs).length c2) (cnts D xs) := Kd.R_V hR
          have hclip : api_Count.f (cnts D xs) = some (cnts D xs) := by simp [api_Count.f]
          go_wp2_with (first
            | (go_at_call 54; refine (api_Count.calls (fun k => w.heap.size + 4 ≤ k) A2 c2 (cnts D xs) (cnts D xs) wr hV hclip).mono ?_; rintro e w4 ⟨v4, rfl, hV4, hB4⟩; obtain ⟨A4, c4, rfl⟩ := Kd.V_slice hV4; have e0 := (hB4.block _ (by omega)).trans b0; have e1 := (hB4.block _ (by omega)).trans b1; have hc41 : w4.cell? ⟨w.heap.size + 1, 1, none⟩ = some (.slice A2 (cnts D xs).length c2) := (by simp [World.cell?, e1]); have hc40 : w4.cell? ⟨w.heap.size + 1, 0, none⟩ = some (.int .i64 bits) := (by simp [World.cell?, e1]); have hf4 : w4.frozen? ⟨w.heap.size + 1, 1, none⟩ = false := (by simp [World.frozen?, e1]); have hc00 : w4.cell? ⟨w.heap.size, 0, none⟩ = some (.int .i64 0) := (by simp [World.cell?, e0]); have hc01 : w4.cell? ⟨w.heap.size, 1, none⟩ = some (.slice none 0 0) := (by simp [World.cell?, e0]); have hf40 : w4.frozen? ⟨w.heap.size, 0, none⟩ = false := (by simp [World.frozen?, e0]); have hf41 : w4.frozen? ⟨w.heap.size, 1, none⟩ = false := (by simp [World.frozen?, e0]))
            | go_in)
          have hs4' : wr.heap.size ≤ w4.heap.size := hB4.size
          have f0 := heap_setCell_same _ w.heap.size 0 _ 25 (.int .i64 bits) ((heap_setCell_other w4 ⟨w.heap.size + 1, 1, none⟩ w.heap.size (.slice A4 (cnts D xs).length c4) (by simp)).trans e0)
          have f1 := heap_setCell_same _ w.heap.size 1 _ 25 (.slice A4 (cnts D xs).length c4) f0
          (try simp only [Exit.inBlock, Exit.then])
          refine bodyPost_ret (results_cell_row rfl _ _ w.heap.size 25 #[.int .i64 bits, .slice A4 (cnts D xs).length c4] (0, 0) _ rfl (by simpa using f1) Tryd.underlying25 rfl (by kernel_rfl)) rfl ?_
          refine ⟨_, xs, rfl, ?_, ?_, hrise, hwf, hmem⟩
          · have hV5 := Kd.V_mono hV4 (ok' := fun k => w.heap.size + 4 ≤ k) (fun k hk => by rcases hk with hk | hk <;> omega)
            exact Kd.V_mono (Kd.V_far (Kd.V_far (Kd.V_far hV5 (p := ⟨w.heap.size + 1, 1, none⟩) (fun k hk e => by have e' : k = w.heap.size + 1 := e; omega) _) (p := ⟨w.heap.size, 0, none⟩) (fun k hk e => by have e' : k = w.heap.size := e; omega) _) (p := ⟨w.heap.size, 1, none⟩) (fun k hk e => by have e' : k = w.heap.size := e; omega) _) (fun k hk => by omega)
          · exact (((hB.trans (Below.mono hB4 (by omega))).setCell (p := ⟨w.heap.size + 1, 1, none⟩) (by simp) _).setCell (p := ⟨w.heap.size, 0, none⟩) (by simp) _).setCell (p := ⟨w.heap.size, 1, none⟩) (by simp) _
    · intro x c w1 cnt1 hwx hwc hlx hat hrg1 hlt hg1 hs1 hen
      have hxn : x ∉ xs := fun hm => by
        have := ((hgot.mem x).1 hm).2
        rw [hlx] at this
        cases this
      have hhas : has D (.int .i64 x) = true := has_true_of_atKey hat
      obtain ⟨i, hf, hi, hlo, hhi⟩ := search_f xs x hgot.rising (by omega) hxn
      have hv1 := hvx.kept hg1 (by
        cases hv : v.ownBlock with
        | none => exact .inl rfl
        | some k => exact .inr (fun e => by have := (hvx.1.lt k hv).1; have := Option.some.inj e; omega))
      have c0 := (hg1.block _ (by omega) (fun e => by have := Option.some.inj e; omega)).trans b0
      have c1 := (hg1.block _ (by omega) (fun e => by have := Option.some.inj e; omega)).trans b1
      have c2 := (hg1.block _ (by omega) (fun e => by have := Option.some.inj e; omega)).trans b2
      have hvb := (fun k hk => (hv1.1.lt k hk).1)
      go_wp2_with (first
        | (go_at_call 53; refine (put43 (xs.length + 1) (w.heap.size + 4) (w.heap.size + 2) v xs i false x w1 hi hwx c2 hv1 (by omega) (by omega) hf).mono ?_; rintro e w3 ⟨rfl, v', w2, hg2, hg3, d2, hv3⟩)
        | go_in)
      have hrg2 := (hrg1.kept hg2 (fun e => by have := hvb _ e.symm; omega) (fun e => by have := hvb _ e.symm; omega)).kept hg3 (fun e => by have := Option.some.inj e; omega) (fun e => by have := Option.some.inj e; omega)
      have hsz2 := hg2.size
      have d0 := (hg3.block _ (by omega) (fun e => by have := Option.some.inj e; omega)).trans ((hg2.block _ (by omega) (fun e => by have := hvb _ e.symm; omega)).trans c0)
      have d1 := (hg3.block _ (by omega) (fun e => by have := Option.some.inj e; omega)).trans ((hg2.block _ (by omega) (fun e => by have := hvb _ e.symm; omega)).trans c1)
      go_roundw
      case rel =>
        refine ⟨_, cnt1, v', put xs i x, hrg2, ?_, ⟨put_rising hgot.rising hi hlo hhi, ?_, ?_⟩, hv3, d0, d1, d2, ?_, ?_⟩
        · rw [put_length xs i x hi]; omega
        · intro y hy
          rcases (put_mem y).1 hy with rfl | hy
          · exact hwx
          · exact hgot.wf y hy
        · intro y
          rw [put_mem, hgot.mem, sameKey_int]
          by_cases hyx : y = x
          · subst hyx
            simp [hhas]
          · simp [hyx]
        · have := hg3.size; omega
        · exact ((hB.grown hg1 (by omega) (fun k hk => by have := Option.some.inj hk; omega)).grown hg2 (by omega) (fun k hk => by have := hvb k hk; omega)).grown hg3 (by omega) (fun k hk => by have := Option.some.inj hk; omega)
      case measure => rw [hrg2.left_eq, hrg.left_eq]; exact hlt
end Go.Proofs.YtlkameeaaplonaaDoor
