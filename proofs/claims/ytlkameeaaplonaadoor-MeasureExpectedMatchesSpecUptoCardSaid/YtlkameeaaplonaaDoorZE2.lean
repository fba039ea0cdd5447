/- The texts of the claim, part 2: each says in its own first line what is proved and its conditions. -/
import Derived.Test.YtlkameeaaplonaaDoorQMeasureExpectedMatchesSpecx0
import Derived.Test.YtlkameeaaplonaaDoorQMeasureExpectedMatchesSpecx1
import Derived.Test.YtlkameeaaplonaaDoorQMeasureExpectedMatchesSpecx2
import Derived.Test.YtlkameeaaplonaaDoorQMeasureExpectedMatchesSpecx3
import Derived.Test.YtlkameeaaplonaaDoorQMeasureExpectedMatchesSpecx4
import Derived.Test.YtlkameeaaplonaaDoorQMeasureExpectedMatchesSpecx5
import Derived.Maps.RangeWalk
import Derived.Maps.OwnOps
import Derived.WalkKit
import Derived.Maps.OwnSet
import Derived.Deep.LoopGhost
import Derived.Test.YtlkameeaaplonaaDoorZE1
/- A tally's histogram: the counts of its buckets, rising, of those that have any. Condition: at most a million buckets. -/
namespace Go.Proofs.YtlkameeaaplonaaDoor
open Go.Shelf Go.RowKit Go.Maps Go.Proofs.YtlkameeaaplonaaDoor.QMeasureExpectedMatchesSpec
open Go.Proofs.YtlkameeaaplonaaDoorW.PrintWords
theorem law3 : Keyed Tryd.prog 3 := int_keyed Tryd.underlying3
theorem zero3 (w : World) : (zeroValue 3).run Tryd.prog w = .ok (.int .i64 0) w := by kernel_rfl
/-- The count at a bucket. -/
def val (D : DataW Unit) (x : Int) : Int := match D.atKey (.int .i64 x) (.lit (.int .i64 0)) with
  | .lit (.int _ c) => c
  | _ => 0
/-- The counts of some buckets. -/
def cnts (D : DataW Unit) : List Int → List S44
  | [] => []
  | x :: r => if 0 < val D x then ⟨x, val D x⟩ :: cnts D r else cnts D r
theorem cnts_snoc (D : DataW Unit) (x : Int) : ∀ xs : List Int, cnts D (xs ++ [x]) = cnts D xs ++ (if 0 < val D x then [⟨x, val D x⟩] else [])
  | [] => by simp only [List.nil_append, cnts]
  | y :: r => by
    simp only [List.cons_append, cnts, cnts_snoc D x r]
    split <;> simp
theorem cnts_length (D : DataW Unit) : ∀ xs : List Int, (cnts D xs).length ≤ xs.length
  | [] => Nat.le_refl _
  | x :: r => by
    simp only [cnts]
    have := cnts_length D r
    split <;> simp <;> omega
theorem sameKey_int (x y : Int) : (Lit.int .i64 x).sameKey (.int .i64 y) = (x == y) := by
  by_cases h : x = y
  · subst h
    simp [Lit.sameKey]
  · rw [sameKey_ne (by simpa using h)]
    exact (beq_eq_false_iff_ne.2 h).symm
/-- What is gathered: the keys that are no longer to come, rising. -/
structure Got (D : DataW Unit) (left : Lit → Bool) (xs : List Int) : Prop where
  rising : Rising xs
  wf : ∀ x ∈ xs, (Lit.int .i64 x).wf = true
  mem : ∀ x, x ∈ xs ↔ has D (.int .i64 x) = true ∧ left (.int .i64 x) = false
theorem blk_ne_of_type {w : World} {g t e : Nat} {cells : Array Value} {B n : Nat} {v : Value} {zs : List Value} {sz : Nat} (h : w.ownsRow B e sz v n zs) (hg : w.heap[g]? = some (.cells cells t (0, 0))) (hne : e ≠ t) : v.ownBlock ≠ some g := by
  intro he
  rcases h.2 with ⟨rfl, _⟩ | ⟨gg, cap, cur, rfl, _, h2, _⟩
  · simp [Value.ownBlock] at he
  · simp [Value.ownBlock] at he
    subst he
    rw [hg] at h2
    injection h2 with h2
    injection h2 with _ h2
    exact hne h2.symm

set_option maxRecDepth 100000 in
set_option maxHeartbeats 4000000 in
theorem hist35 (b n : Nat) (D : DataW Unit) (bits : Int) (w : World) (hown : w.ownsMap Tryd.prog 3 (plainElem Tryd.prog 3) b n D) (hsz : Maps.size D ≤ 1000000) :
    Calls Tryd.prog 39 #[.map (some b), .int .i64 bits] w fun e w' => ∃ v xs, e = .returned (.agg #[.int .i64 bits, v]) ∧ Kd.V k44 44 w' w.heap.size (fun k => w.heap.size ≤ k) v (cnts D xs) ∧ Below w.heap.size w w' ∧
      Rising xs ∧ (∀ x ∈ xs, (Lit.int .i64 x).wf = true) ∧ ∀ x, x ∈ xs ↔ has D (.int .i64 x) = true := by
  have hbl := hown.lt
  have hown3 : (((w.alloc (.cells #[.int .i64 0, .slice none 0 0] 25)).alloc (.cells #[.int .i64 bits, .slice none 0 0] 25)).alloc (.cells #[.slice none 0 0] 71)).ownsMap Tryd.prog 3 (plainElem Tryd.prog 3) b n D := ((hown.alloc _).alloc _).alloc _
  have e3 : (((w.alloc (.cells #[.int .i64 0, .slice none 0 0] 25)).alloc (.cells #[.int .i64 bits, .slice none 0 0] 25)).alloc (.cells #[.slice none 0 0] 71)).heap.size = w.heap.size + 3 := by simp
  go_enter Tryd.func39, Tryd.ntmps39
  go_wp2_with (first
    | (at_range; refine wpList_range_own _ rfl _ 58 rfl 3 3 law3 Tryd.underlying58 _ b n D rfl hown3 ?_; intro w0 hrg0 hg0 hs0)
    | go_in)
  go_frame
  rw [e3] at hrg0 hs0 ⊢
  have hB0 : Below w.heap.size w w0 := ((((Below.refl w.heap.size w).alloc (Nat.le_refl _) _).alloc (by simp) _).alloc (by simp; omega) _).grown hg0 (by simp; omega) (fun j hj => by cases hj)
  have b0 : w0.heap[w.heap.size]? = some (.cells #[.int .i64 0, .slice none 0 0] 25 (0, 0)) := (hg0.block _ (by rw [e3]; omega) (by simp)).trans ((Below.heap_alloc _ _ _ (by simp; omega)).trans ((Below.heap_alloc _ _ _ (by simp)).trans (heap_alloc_new w _)))
  have b1 : w0.heap[w.heap.size + 1]? = some (.cells #[.int .i64 bits, .slice none 0 0] 25 (0, 0)) := (hg0.block _ (by rw [e3]; omega) (by simp)).trans ((Below.heap_alloc _ _ _ (by simp)).trans (by have := heap_alloc_new (w.alloc (.cells #[.int .i64 0, .slice none 0 0] 25)) (.cells #[.int .i64 bits, .slice none 0 0] 25); simpa using this))
  have b2 : w0.heap[w.heap.size + 2]? = some (.cells #[.slice none 0 0] 71 (0, 0)) := (hg0.block _ (by rw [e3]; omega) (by simp)).trans (by have := heap_alloc_new ((w.alloc (.cells #[.int .i64 0, .slice none 0 0] 25)).alloc (.cells #[.int .i64 bits, .slice none 0 0] 25)) (.cells #[.slice none 0 0] 71); simpa using this)
  clear hg0 hown3 e3
  go_loopw [7] (fun _ wr => ∃ (left : Lit → Bool) (cnt : Nat) (v : Value) (xs : List Int), wr.ranges Tryd.prog 3 (plainElem Tryd.prog 3) b (w.heap.size + 3) n D left cnt ∧ xs.length + cnt ≤ Maps.size D ∧ Got D left xs ∧
      wr.ownsInts (w.heap.size + 4) 3 .i64 v xs ∧ wr.heap[w.heap.size]? = some (.cells #[.int .i64 0, .slice none 0 0] 25 (0, 0)) ∧ wr.heap[w.heap.size + 1]? = some (.cells #[.int .i64 bits, .slice none 0 0] 25 (0, 0)) ∧
      wr.heap[w.heap.size + 2]? = some (.cells #[v] 71 (0, 0)) ∧ w.heap.size + 4 ≤ wr.heap.size ∧ Below w.heap.size w wr)
    (fun _ wr => wr.rangeLeft b (w.heap.size + 3))
  case atStart => exact ⟨_, _, .slice none 0 0, [], hrg0, by simp, ⟨List.Pairwise.nil, by simp, fun x => by simp⟩, World.ownsInts_nil _ _ _ _, b0, b1, b2, by omega, hB0⟩
  case round =>
    obtain ⟨left, cnt, v, xs, hrg, hcs, hgot, hvx, b0, b1, b2, hs4, hB⟩ := hrel
    go_wp2_with (first
      | (at_next; refine wpList_next_ranges_ii _ rfl _ rfl 3 3 .i64 .i64 law3 Tryd.underlying3 Tryd.underlying3 b (w.heap.size + 3) n _ _ _ rfl hrg ?_ ?_)
      | go_in)
    · intro hc0 hl0
      have hmem : ∀ x, x ∈ xs ↔ has D (.int .i64 x) = true := fun x => by rw [hgot.mem, hl0]; simp
      have hrise := hgot.rising
      have hwf := hgot.wf
      have hown := hrg.owns
      have hlen : xs.length ≤ 1000000 := by omega
      clear hrg hgot hl0 hcs hc0
      obtain ⟨A, nn, c, rfl⟩ : ∃ A n c, v = .slice A n c := by
        rcases hvx.1.2 with ⟨e, _⟩ | ⟨gg, cap, cur, e, _⟩
        · exact ⟨_, _, _, e⟩
        · exact ⟨_, _, _, e⟩
      obtain ⟨hln, hnc, hC⟩ := C_own hvx
      subst hln
      have hc2 : wr.cell? ⟨w.heap.size + 1 + 1, 0, none⟩ = some (.slice A xs.length c) := by simp [World.cell?, b2]
      have hc2' : wr.cell? ⟨w.heap.size + 2, 0, none⟩ = some (.slice A xs.length c) := hc2
      go_wp2
      go_loopw [23] (fun i w2 => ∃ (k : Nat) (v2 : Value), k ≤ xs.length ∧ i = .int .i64 k ∧ Kd.R k44 44 w2 (w.heap.size + 4) (fun k => w.heap.size + 4 ≤ k) v2 (cnts D (xs.take k)) ∧
          w2.heap[w.heap.size]? = some (.cells #[.int .i64 0, .slice none 0 0] 25 (0, 0)) ∧ w2.heap[w.heap.size + 1]? = some (.cells #[.int .i64 bits, v2] 25 (0, 0)) ∧ w2.ownsInts (w.heap.size + 4) 3 .i64 (.slice A xs.length c) xs ∧
          w2.ownsMap Tryd.prog 3 (plainElem Tryd.prog 3) b n D ∧ w.heap.size + 4 ≤ w2.heap.size ∧ Below w.heap.size w w2)
        (fun i _ => xs.length - (intOf i).toNat)
      case atStart => exact ⟨0, .slice none 0 0, Nat.zero_le _, rfl, Kd.R_nil _ _ _ _ _, b0, b1, hvx, hown, hs4, hB⟩
      case round =>
        clear b0 b1 b2 hB hs4 hvx hown hc2 hc2'
        obtain ⟨k, v2, hk, rfl, hR, b0, b1, hvx, hown, hs4, hB⟩ := hrel
        by_cases hlt : k < xs.length
        · have hd : decide ((k : Int) < (xs.length : Int)) = true := decide_eq_true (by omega)
          obtain ⟨gv, rfl, hcell⟩ : ∃ gv, A = some ⟨gv, 0, none⟩ ∧ wr.cell? ⟨gv, k, none⟩ = some (.int .i64 (xs.getD k 0)) := by
            rcases hvx.1.2 with ⟨e, h0⟩ | ⟨gg, cap, cur, e, hbg, hg, _⟩
            · omega
            · injection e with e1 e2 e3
              subst e1
              refine ⟨gg, rfl, ?_⟩
              have := hvx.1.cells (g := gg) rfl k (.int .i64 (xs.getD k 0)) (by rw [List.getElem?_map, List.getElem?_eq_getElem hlt]; simp [List.getD, List.getElem?_eq_getElem hlt])
              rwa [Addr.add_lit, Nat.zero_add] at this
          have hcell' : wr.cell? ⟨gv, 0 + k, none⟩ = some (.int .i64 (xs.getD k 0)) := by rw [Nat.zero_add]; exact hcell
          have hv2 : ∃ A n c, v2 = .slice A n c := by
            obtain ⟨A, c, e⟩ := Kd.R_slice hR
            exact ⟨A, _, c, e⟩
          obtain ⟨A2, n2, c2, rfl⟩ := hv2
          have hcb : wr.cell? ⟨w.heap.size + 1, 1, none⟩ = some (.slice A2 n2 c2) := by simp [World.cell?, b1]
          have hfb : wr.frozen? ⟨w.heap.size + 1, 1, none⟩ = false := by simp [World.frozen?, b1]
          obtain ⟨x, hx⟩ : ∃ x, x = xs.getD k 0 := ⟨_, rfl⟩
          rw [← hx] at hcell hcell'
          have hxm : x ∈ xs := by rw [hx]; simp [List.getD, List.getElem?_eq_getElem hlt]
          have hwx := hwf x hxm
          have htk : xs.take (k + 1) = xs.take k ++ [x] := by rw [List.take_succ_eq_append_getElem hlt, hx]; simp [List.getD, List.getElem?_eq_getElem hlt]
          clear hx
          have hat0 : D.atKey (.int .i64 x) (.lit (.int .i64 0)) = .lit (.int .i64 (val D x)) := by
            obtain ⟨c0, _, h0, _⟩ := hown.lookup_int law3 Tryd.underlying58 Tryd.underlying3 (zero3 _) (keyOf_int_mk Tryd.underlying3 hwx)
            unfold val
            rw [h0]
          go_wp2_with (first
            | (at_lookup; refine wpList_lookup_own_int _ rfl _ _ 58 rfl 3 3 .i64 law3 Tryd.underlying58 Tryd.underlying3 (zero3 _) b n _ rfl hown _ _ rfl (keyOf_int_mk Tryd.underlying3 hwx) ?_; intro cc hat hwc; obtain rfl : val D x = cc := (by rw [hat0] at hat; simpa using hat))
            | ((with_reducible refine gate_builtin (b := .append) (xs := #[.tmp 32, .tmp 38]) rfl ?_); at_builtin; refine Kd.R_append k44 (w0 := wr) (w.heap.size + 4) rfl (.tmp 32) (.tmp 38) 23 44 (.agg #[.int .i64 0, .int .i64 0]) 16 rfl Tryd.underlying23 info44 rfl (by decide) (by omega) (.slice A2 n2 c2) (cnts D (xs.take k)) ⟨x, val D x⟩ [.int .i64 x, .int .i64 (val D x)] (fun k => w.heap.size + 4 ≤ k) (fun _ => False) rfl rfl (k44_mkM _ _ _ _) (fun _ hk => hk.elim) (fun k hk => by omega) hR (Below.refl _ _) (by omega) (by have := cnts_length D (xs.take k); rw [List.length_take] at this; omega) ?_; intro v3 w3 hR3 hB3 hg3 hat3; obtain ⟨A3, c3, rfl⟩ := Kd.R_slice hR3; have d1 := (hg3.block (w.heap.size + 1) (by omega) (fun e => by have := Kd.R_base hR _ e.symm; omega)).trans b1; have hcb3 : w3.cell? ⟨w.heap.size + 1, 1, none⟩ = some (.slice A2 n2 c2) := (by simp [World.cell?, d1]); have hfb3 : w3.frozen? ⟨w.heap.size + 1, 1, none⟩ = false := (by simp [World.frozen?, d1]))
            | go_in)
          · have hpos : 0 < val D x := by assumption
            have hgs : w3.grownBy (w3.setCell ⟨w.heap.size + 1, 1, none⟩ (.slice A3 ((cnts D (xs.take k)).length + 1) c3)) (some (w.heap.size + 1)) := ⟨rfl, rfl, rfl, by simp [World.setCell], fun j _ hne => heap_setCell_other w3 _ j _ (fun e => hne (by rw [e]))⟩
            have hgvne : ∀ j, (Value.slice A2 n2 c2).ownBlock = some j → gv ≠ j := by
              intro j hj e
              obtain ⟨cells, ht⟩ := Kd.R_typed hR j hj
              exact blk_ne_of_type hvx.1 ht (by decide) (by subst e; rfl)
            have hgv4 := (hvx.1.lt gv rfl).1
            have e2 : w3.heap.size ≤ (w3.setCell ⟨w.heap.size + 1, 1, none⟩ (.slice A3 ((cnts D (xs.take k)).length + 1) c3)).heap.size := hgs.size
            have hsz3 := hg3.size
            refine ⟨⟨k + 1, .slice A3 ((cnts D (xs.take k)).length + 1) c3, by omega, by simp, ?_, (hgs.block _ (by omega) (fun e => by have := Option.some.inj e; omega)).trans ((hg3.block _ (by omega) (fun e => by have := Kd.R_base hR _ e.symm; omega)).trans b0), ?_, ?_, ?_, by omega, ?_⟩, by simp [intOf]; omega⟩
            rotate_left
            · have := heap_setCell_same w3 (w.heap.size + 1) 1 _ 25 (.slice A3 ((cnts D (xs.take k)).length + 1) c3) d1
              simpa using this
            · exact (hvx.kept hg3 (.inr (fun e => hgvne gv e.symm rfl))).kept hgs (.inr (fun e => by have e' : some gv = some (w.heap.size + 1) := e; have := Option.some.inj e'; omega))
            · exact (hown.kept hg3 (fun e => by have := Kd.R_base hR _ e.symm; omega)).kept hgs (fun e => by have := Option.some.inj e; omega)
            · exact (hB.grown hg3 (by omega) (fun j hj => by have := Kd.R_base hR _ hj; omega)).grown hgs (by omega) (fun j hj => by have := Option.some.inj hj; omega)
            · rw [htk, cnts_snoc, if_pos hpos]
              rw [List.length_append] at hR3
              exact Kd.R_grown hR3 hgs (fun j hj e => by have := Option.some.inj e; omega)
          · have hneg : ¬ 0 < val D x := by omega
            refine ⟨⟨k + 1, .slice A2 n2 c2, by omega, by simp, ?_, b0, b1, hvx, hown, hs4, hB⟩, by simp [intOf]; omega⟩
            rw [htk, cnts_snoc, if_neg hneg, List.append_nil]
            exact hR
        · have hke : k = xs.length := by omega
          subst hke
          rw [List.take_length] at hR
          have hv2 : ∃ A c, v2 = .slice A (cnts D xs).length c := Kd.R_slice hR
          obtain ⟨A2, c2, rfl⟩ := hv2
          have hcb : wr.cell? ⟨w.heap.size + 1, 1, none⟩ = some (.slice A2 (cnts D xs).length c2) := by simp [World.cell?, b1]
          have hV : Kd.V k44 44 wr wr.heap.size (fun k => w.heap.size + 4 ≤ k) (.slice A2 (cnts D xs).length c2) (cnts D xs) := Kd.R_V hR
          have hclip : api_Count.f (cnts D xs) = some (cnts D xs) := by simp [api_Count.f]
          go_wp2_with (first
            | (go_at_call 54; refine (api_Count.calls (fun k => w.heap.size + 4 ≤ k) A2 c2 (cnts D xs) (cnts D xs) wr hV hclip).mono ?_; rintro e w4 ⟨v4, rfl, hV4, hB4⟩; obtain ⟨A4, c4, rfl⟩ := Kd.V_slice hV4; have e0 := (hB4.block _ (by omega)).trans b0; have e1 := (hB4.block _ (by omega)).trans b1; have hc41 : w4.cell? ⟨w.heap.size + 1, 1, none⟩ = some (.slice A2 (cnts D xs).length c2) := (by simp [World.cell?, e1]); have hc40 : w4.cell? ⟨w.heap.size + 1, 0, none⟩ = some (.int .i64 bits) := (by simp [World.cell?, e1]); have hf4 : w4.frozen? ⟨w.heap.size + 1, 1, none⟩ = false := (by simp [World.frozen?, e1]); have hc00 : w4.cell? ⟨w.heap.size, 0, none⟩ = some (.int .i64 0) := (by simp [World.cell?, e0]); have hc01 : w4.cell? ⟨w.heap.size, 1, none⟩ = some (.slice none 0 0) := (by simp [World.cell?, e0]); have hf40 : w4.frozen? ⟨w.heap.size, 0, none⟩ = false := (by simp [World.frozen?, e0]); have hf41 : w4.frozen? ⟨w.heap.size, 1, none⟩ = false := (by simp [World.frozen?, e0]))
            | go_in)
          have hs4' : wr.heap.size ≤ w4.heap.size := hB4.size
          have f0 := heap_setCell_same _ w.heap.size 0 _ 25 (.int .i64 bits) ((heap_setCell_other w4 ⟨w.heap.size + 1, 1, none⟩ w.heap.size (.slice A4 (cnts D xs).length c4) (by simp)).trans e0)
          have f1 := heap_setCell_same _ w.heap.size 1 _ 25 (.slice A4 (cnts D xs).length c4) f0
          (try simp only [Exit.inBlock, Exit.then])
          refine bodyPost_ret (results_cell_row rfl _ _ w.heap.size 25 #[.int .i64 bits, .slice A4 (cnts D xs).length c4] (0, 0) _ rfl (by simpa using f1) Tryd.underlying25 rfl (by kernel_rfl)) rfl ?_
          refine ⟨_, xs, rfl, ?_, ?_, hrise, hwf, hmem⟩
          · have hV5 := Kd.V_mono hV4 (ok' := fun k => w.heap.size + 4 ≤ k) (fun k hk => by rcases hk with hk | hk <;> omega)
            exact Kd.V_mono (Kd.V_far (Kd.V_far (Kd.V_far hV5 (p := ⟨w.heap.size + 1, 1, none⟩) (fun k hk e => by have e' : k = w.heap.size + 1 := e; omega) _) (p := ⟨w.heap.size, 0, none⟩) (fun k hk e => by have e' : k = w.heap.size := e; omega) _) (p := ⟨w.heap.size, 1, none⟩) (fun k hk e => by have e' : k = w.heap.size := e; omega) _) (fun k hk => by omega)
          · exact (((hB.trans (Below.mono hB4 (by omega))).setCell (p := ⟨w.heap.size + 1, 1, none⟩) (by simp) _).setCell (p := ⟨w.heap.size, 0, none⟩) (by simp) _).setCell (p := ⟨w.heap.size, 1, none⟩) (by simp) _
    · intro x c w1 cnt1 hwx hwc hlx hat hrg1 hlt hg1 hs1 hen
      have hxn : x ∉ xs := fun hm => by
        have := ((hgot.mem x).1 hm).2
        rw [hlx] at this
        cases this
      have hhas : has D (.int .i64 x) = true := has_true_of_atKey hat
      obtain ⟨i, hf, hi, hlo, hhi⟩ := search_f xs x hgot.rising (by omega) hxn
      have hv1 := hvx.kept hg1 (by
        cases hv : v.ownBlock with
        | none => exact .inl rfl
        | some k => exact .inr (fun e => by have := (hvx.1.lt k hv).1; have := Option.some.inj e; omega))
      have c0 := (hg1.block _ (by omega) (fun e => by have := Option.some.inj e; omega)).trans b0
      have c1 := (hg1.block _ (by omega) (fun e => by have := Option.some.inj e; omega)).trans b1
      have c2 := (hg1.block _ (by omega) (fun e => by have := Option.some.inj e; omega)).trans b2
      have hvb := (fun k hk => (hv1.1.lt k hk).1)
      go_wp2_with (first
        | (go_at_call 53; refine (put43 (xs.length + 1) (w.heap.size + 4) (w.heap.size + 2) v xs i false x w1 hi hwx c2 hv1 (by omega) (by omega) hf).mono ?_; rintro e w3 ⟨rfl, v', w2, hg2, hg3, d2, hv3⟩)
        | go_in)
      have hrg2 := (hrg1.kept hg2 (fun e => by have := hvb _ e.symm; omega) (fun e => by have := hvb _ e.symm; omega)).kept hg3 (fun e => by have := Option.some.inj e; omega) (fun e => by have := Option.some.inj e; omega)
      have hsz2 := hg2.size
      have d0 := (hg3.block _ (by omega) (fun e => by have := Option.some.inj e; omega)).trans ((hg2.block _ (by omega) (fun e => by have := hvb _ e.symm; omega)).trans c0)
      have d1 := (hg3.block _ (by omega) (fun e => by have := Option.some.inj e; omega)).trans ((hg2.block _ (by omega) (fun e => by have := hvb _ e.symm; omega)).trans c1)
      go_roundw
      case rel =>
        refine ⟨_, cnt1, v', put xs i x, hrg2, ?_, ⟨put_rising hgot.rising hi hlo hhi, ?_, ?_⟩, hv3, d0, d1, d2, ?_, ?_⟩
        · rw [put_length xs i x hi]; omega
        · intro y hy
          rcases (put_mem y).1 hy with rfl | hy
          · exact hwx
          · exact hgot.wf y hy
        · intro y
          rw [put_mem, hgot.mem, sameKey_int]
          by_cases hyx : y = x
          · subst hyx
            simp [hhas]
          · simp [hyx]
        · have := hg3.size; omega
        · exact ((hB.grown hg1 (by omega) (fun k hk => by have := Option.some.inj hk; omega)).grown hg2 (by omega) (fun k hk => by have := hvb k hk; omega)).grown hg3 (by omega) (fun k hk => by have := Option.some.inj hk; omega)
      case measure => rw [hrg2.left_eq, hrg.left_eq]; exact hlt
end Go.Proofs.YtlkameeaaplonaaDoor

/- The histogram of values: checkValues, of, Of. -/
namespace Go.Proofs.YtlkameeaaplonaaDoor
open Go.Shelf Go.RowKit Go.Maps Go.Proofs.YtlkameeaaplonaaDoor.QMeasureExpectedMatchesSpec
open Go.Proofs.YtlkameeaaplonaaDoorW.PrintWords
def bad (v : Int) : Bool := decide (v < 0) || decide (1125899906842623 < v)
theorem pred34 (v : Int) (w : World) : Calls Tryd.prog 51 #[.int .i64 v] w fun e w' => e = .returned (.bool (bad v)) ∧ ∃ q, w' = w.drewN q := by
  by_cases h0 : v < 0
  · have d0 : decide (v < 0) = true := decide_eq_true h0
    go_enter Tryd.func51, Tryd.ntmps51
    go_wp2
    go_ret
    exact ⟨by simp [bad, h0], 0, rfl⟩
  · have d0 : decide (v < 0) = false := decide_eq_false h0
    by_cases h1 : 1125899906842623 < v
    · have d1 : decide (1125899906842623 < v) = true := decide_eq_true h1
      go_enter Tryd.func51, Tryd.ntmps51
      go_wp2
      go_ret
      exact ⟨by simp [bad, h1], 0, rfl⟩
    · have d1 : decide (1125899906842623 < v) = false := decide_eq_false h1
      go_enter Tryd.func51, Tryd.ntmps51
      go_wp2
      go_ret
      exact ⟨by simp [bad, h0, h1], 0, rfl⟩
theorem C_cell {w : World} {A : Option Addr} {n : Nat} {xs : List Int} (h : Kd.C (Kd.int .i64) w A n xs) (k : Nat) (hk : k < n) : ∃ ad, A = some ad ∧ w.cell? (ad.add k) = some (.int .i64 (xs.getD k 0)) := by
  obtain ⟨hl, _, h2⟩ := h
  obtain ⟨ad, rfl, hc⟩ := h2 (by omega)
  obtain ⟨c, hcl, hr, hcell⟩ := hc k (xs.getD k 0) (by rw [List.getElem?_eq_getElem (by omega)]; simp [List.getD, List.getElem?_eq_getElem (show k < xs.length by omega)])
  have hr' : c = [.int .i64 (xs.getD k 0)] := hr
  subst hr'
  exact ⟨ad, rfl, by simpa [Kd.int, Kd.scalar] using hcell 0 _ rfl⟩
theorem idx42 (A : Option Addr) (n c : Nat) (xs : List Int) (w : World) (hC : Kd.C (Kd.int .i64) w A n xs) :
    Calls Tryd.prog 56 #[.slice A n c, .func (.func 51) #[] #[]] w fun e w' => ∃ i : Int, e = .returned (.int .i64 i) ∧ (0 ≤ i ↔ xs.any bad = true) ∧ ∃ q, w' = w.drewN q := by
  have hl := hC.1
  have hbig := hC.2.1
  have eg := enters_of Tryd.func51 (by kernel_rfl) rfl
  go_enter Tryd.func56, Tryd.ntmps56
  go_wp2
  go_loopg [5, 8] n (fun gg _ s8 wr => ∃ kk q : Nat, kk ≤ n ∧ n - kk ≤ gg ∧ s8 = .int .i64 kk ∧ wr = w.drewN q ∧ Aside (∀ j, j < kk → bad (xs.getD j 0) = false))
  case atStart => exact ⟨0, 0, Nat.zero_le _, by omega, rfl, rfl, fun j hj => absurd hj (Nat.not_lt_zero _)⟩
  case round =>
    obtain ⟨kk, q, hkk, hg, rfl, rfl, A_⟩ := hrel
    by_cases hlt : kk < n
    · have hltz : (kk : Int) < (n : Int) := by omega
      obtain ⟨ad, rfl, hcell⟩ := C_cell hC kk hlt
      have hin : xs.getD kk 0 ∈ xs := by simp [List.getD, List.getElem?_eq_getElem (show kk < xs.length by omega)]
      generalize hy : xs.getD kk 0 = y at hcell hin
      have B : Aside (xs.getD kk 0 = y) := hy
      clear hy
      have hcall := fun W => pred34 y W
      cases hq : bad y with
      | true =>
        rw [hq] at hcall
        go_wp2_with (go_at_call 51; refine (hcall _).mono ?_; rintro e w' ⟨rfl, q', rfl⟩)
        go_ret
        refine ⟨_, rfl, ⟨fun _ => by first | exact List.any_eq_true.2 ⟨y, hin, hq⟩ | exact ⟨y, hin, hq⟩, fun _ => by omega⟩, _, rfl⟩
      | false =>
        rw [hq] at hcall
        go_wp2_with (go_at_call 51; refine (hcall _).mono ?_; rintro e w' ⟨rfl, q', rfl⟩)
        go_roundg (n - (kk + 1))
        case measure => omega
        case rel =>
          refine ⟨kk + 1, _, by omega, by omega, by go_num, rfl, (show Aside _ from fun j hj => ?_)⟩
          by_cases e : j = kk
          · subst e
            rw [B.out]; exact hq
          · exact A_.out j (by omega)
    · have hltz : ¬ (kk : Int) < (n : Int) := by omega
      have : kk = n := by omega
      subst this
      go_wp2
      go_ret
      refine ⟨_, rfl, ⟨fun h => absurd h (by decide), fun h => ?_⟩, q, rfl⟩
      obtain ⟨y, hy, hb⟩ : ∃ y, y ∈ xs ∧ bad y = true := by first | exact List.any_eq_true.1 h | exact h
      obtain ⟨j, hj, rfl⟩ := List.getElem_of_mem hy
      have := A_.out j (by omega)
      simp [List.getD, List.getElem?_eq_getElem hj, hb] at this
theorem cont33 (A : Option Addr) (n c : Nat) (xs : List Int) (w : World) (hC : Kd.C (Kd.int .i64) w A n xs) :
    Calls Tryd.prog 50 #[.slice A n c, .func (.func 51) #[] #[]] w fun e w' => e = .returned (.bool (xs.any bad)) ∧ ∃ q, w' = w.drewN q := by
  by_cases hb : xs.any bad = true
  · go_enter Tryd.func50, Tryd.ntmps50
    go_wp2_with (go_at_call 56; refine (idx42 A n c xs w hC).mono ?_; rintro e w' ⟨i, rfl, hi, q, rfl⟩; have hi0 : 0 ≤ i := hi.2 hb; have hd : decide (0 ≤ i) = true := decide_eq_true hi0)
    go_ret
    exact ⟨by rw [hb]; rfl, _, rfl⟩
  · go_enter Tryd.func50, Tryd.ntmps50
    go_wp2_with (go_at_call 56; refine (idx42 A n c xs w hC).mono ?_; rintro e w' ⟨i, rfl, hi, q, rfl⟩; have hi0 : ¬ 0 ≤ i := (fun h => hb (hi.1 h)); have hd : decide (0 ≤ i) = false := decide_eq_false hi0)
    go_ret
    exact ⟨by rw [Bool.eq_false_iff.2 hb]; rfl, _, rfl⟩
def fault (bits : Int) (xs : List Int) : Int := if bits < 2 ∨ 8 < bits then 9 else if 20000 < xs.length then 3 else if xs.any bad then 9 else 0
theorem form_f (bits : Int) : measure_bitsForm.f bits = some (decide (2 ≤ bits) && decide (bits ≤ 8)) := by
  unfold measure_bitsForm.f
  by_cases h : 2 ≤ bits
  · rw [if_pos h]; simp [h]
  · rw [if_neg h]; simp [h]
theorem chk22 (bits : Int) (A : Option Addr) (n c : Nat) (xs : List Int) (w : World) (hC : Kd.C (Kd.int .i64) w A n xs) :
    Calls Tryd.prog 32 #[.int .i64 bits, .slice A n c] w fun e w' => e = .returned (.int .i64 (fault bits xs)) ∧ ∃ q, w' = w.drewN q := by
  have hl := hC.1
  have hf := form_f bits
  by_cases h2 : 2 ≤ bits ∧ bits ≤ 8
  · rw [show (decide (2 ≤ bits) && decide (bits ≤ 8)) = true by simp [h2]] at hf
    have hnb : ¬ (bits < 2 ∨ 8 < bits) := by omega
    by_cases hn : 20000 < n
    · have hd : decide ((20000 : Int) < (n : Int)) = true := decide_eq_true (by omega)
      go_enter Tryd.func32, Tryd.ntmps32
      go_wp2_with (go_at_call 25; refine (measure_bitsForm.calls bits true _ hf).mono ?_; rintro e w' ⟨rfl, ⟨nd, rfl⟩⟩)
      go_ret
      exact ⟨by unfold fault; rw [if_neg hnb, if_pos (by omega)]; rfl, _, rfl⟩
    · have hd : decide ((20000 : Int) < (n : Int)) = false := decide_eq_false (by omega)
      have hcc := fun q => cont33 A n c xs (w.drewN q) hC
      cases hb : xs.any bad with
      | true =>
        rw [hb] at hcc
        go_enter Tryd.func32, Tryd.ntmps32
        go_wp2_with (first
          | (go_at_call 25; refine (measure_bitsForm.calls bits true _ hf).mono ?_; rintro e w' ⟨rfl, ⟨nd, rfl⟩⟩)
          | (go_at_call 50; refine (hcc _).mono ?_; rintro e w' ⟨rfl, q, rfl⟩)
          | go_in)
        go_ret
        exact ⟨by unfold fault; rw [if_neg hnb, if_neg (by omega), if_pos hb]; rfl, _, rfl⟩
      | false =>
        rw [hb] at hcc
        go_enter Tryd.func32, Tryd.ntmps32
        go_wp2_with (first
          | (go_at_call 25; refine (measure_bitsForm.calls bits true _ hf).mono ?_; rintro e w' ⟨rfl, ⟨nd, rfl⟩⟩)
          | (go_at_call 50; refine (hcc _).mono ?_; rintro e w' ⟨rfl, q, rfl⟩)
          | go_in)
        go_ret
        exact ⟨by unfold fault; rw [if_neg hnb, if_neg (by omega), if_neg (by rw [hb]; decide)]; rfl, _, rfl⟩
  · rw [show (decide (2 ≤ bits) && decide (bits ≤ 8)) = false by simp; omega] at hf
    go_enter Tryd.func32, Tryd.ntmps32
    go_wp2_with (go_at_call 25; refine (measure_bitsForm.calls bits false _ hf).mono ?_; rintro e w' ⟨rfl, ⟨nd, rfl⟩⟩)
    go_ret
    exact ⟨by unfold fault; rw [if_pos (by omega)]; rfl, _, rfl⟩
end Go.Proofs.YtlkameeaaplonaaDoor

/- of: the values of a list, counted in their buckets; Of with its checks. Conditions: bucket answers for each value. -/
namespace Go.Proofs.YtlkameeaaplonaaDoor
open Go.Shelf Go.RowKit Go.Maps Go.Proofs.YtlkameeaaplonaaDoor.QMeasureExpectedMatchesSpec
open Go.Proofs.YtlkameeaaplonaaDoorW.PrintWords
/-- A map of counts of what stands on a list. -/
structure Counted (D : DataW Unit) (bs : List Int) : Prop where
  tidy : Tidy D
  size : Maps.size D ≤ bs.length
  has : ∀ x, has D (.int .i64 x) = bs.contains x
  val : ∀ x, val D x = (bs.count x : Int)
theorem counted_nil : Counted (.map []) [] := ⟨tidy_empty, Nat.le_refl _, fun _ => rfl, fun _ => rfl⟩
theorem counted_snoc {D : DataW Unit} {bs : List Int} (h : Counted D bs) (x : Int) (hx : (Lit.int .i64 x).wf = true) (d : Int) (hd : d = (bs.count x : Int) + 1) : Counted (D.put (.int .i64 x) (.lit (.int .i64 d))) (bs ++ [x]) := by
  have hk : WideAt.IsKeyLit (Lit.int .i64 x) := trivial
  refine ⟨h.tidy.put hk _, ?_, fun y => ?_, fun y => ?_⟩
  · rw [size_put h.tidy, List.length_append]
    have := h.size
    split <;> simp <;> omega
  · by_cases hy : y = x
    · subst hy
      rw [has_put_same h.tidy.isMap hk]
      simp
    · rw [has_put_other (by simpa using hy), h.has]
      simp [hy]
  · by_cases hy : y = x
    · subst hy
      unfold Go.Proofs.YtlkameeaaplonaaDoor.val
      rw [atKey_put_same h.tidy.isMap hk]
      simp [hd]
    · have hv := h.val y
      unfold Go.Proofs.YtlkameeaaplonaaDoor.val at hv ⊢
      rw [atKey_put_other (by simpa using hy), hv]
      simp [List.count_append, Ne.symm hy]
/-- The histogram of the buckets: rising, each with how many there are. -/
structure IsTally (bs : List Int) (r : List S44) : Prop where
  rising : (r.map (·.f0)).Pairwise (· < ·)
  mem : ∀ s : S44, s ∈ r ↔ s.f0 ∈ bs ∧ s.f1 = (bs.count s.f0 : Int)
theorem cnts_all (D : DataW Unit) : ∀ xs : List Int, (∀ x ∈ xs, 0 < val D x) → cnts D xs = xs.map fun x => ⟨x, val D x⟩
  | [], _ => rfl
  | x :: r, h => by
    rw [cnts, if_pos (h x (by simp)), cnts_all D r (fun y hy => h y (by simp [hy])), List.map_cons]
theorem tally_of {D : DataW Unit} {bs xs : List Int} (h : Counted D bs) (hr : Rising xs) (hm : ∀ x, x ∈ xs ↔ has D (.int .i64 x) = true) : IsTally bs (cnts D xs) := by
  have hm' : ∀ x, x ∈ xs ↔ x ∈ bs := fun x => by rw [hm, h.has]; simp
  have hp : ∀ x ∈ xs, 0 < val D x := fun x hx => by
    rw [h.val]
    have := List.count_pos_iff.2 ((hm' x).1 hx)
    omega
  rw [cnts_all D xs hp]
  refine ⟨?_, fun s => ?_⟩
  · rw [List.map_map]
    have : (fun x => x.f0) ∘ (fun x => (⟨x, val D x⟩ : S44)) = id := rfl
    rw [this, List.map_id]
    exact hr
  · rw [List.mem_map]
    constructor
    · rintro ⟨x, hx, rfl⟩
      exact ⟨(hm' x).1 hx, h.val x⟩
    · rintro ⟨h1, h2⟩
      exact ⟨s.f0, (hm' _).2 h1, by rw [h.val, ← h2]⟩
set_option maxRecDepth 100000 in
set_option maxHeartbeats 4000000 in
theorem of23 (bits : Int) (kb : Nat) (bk : Int → Int) (A : Option Addr) (n c : Nat) (xs : List Int) (w : World) (hC : Kd.C (Kd.int .i64) w A n xs) (hn : n ≤ 20000)
    (hbk : ∀ x ∈ xs, measure_bucket.f kb bits x = some (bk x)) (hwb : ∀ x ∈ xs, (Lit.int .i64 (bk x)).wf = true) :
    Calls Tryd.prog 33 #[.int .i64 bits, .slice A n c] w fun e w' => ∃ v r, e = .returned (.agg #[.int .i64 bits, v]) ∧ Kd.V k44 44 w' w.heap.size (fun k => w.heap.size ≤ k) v r ∧ Below w.heap.size w w' ∧ IsTally (xs.map bk) r := by
  have hl := hC.1
  have hmm := @run_makeMap Tryd.prog
  go_enter Tryd.func33, Tryd.ntmps33
  go_wp2
  have em : (w.alloc (.cells #[.int .i64 0, .slice none 0 0] 25)).heap.size = w.heap.size + 1 := by simp
  go_loopw [11] (fun i wr => ∃ (k : Nat) (D : DataW Unit), k ≤ n ∧ i = .int .i64 k ∧ wr.ownsMap Tryd.prog 3 (plainElem Tryd.prog 3) (w.heap.size + 1) k D ∧ Counted D ((xs.take k).map bk) ∧
      wr.heap[w.heap.size]? = some (.cells #[.int .i64 0, .slice none 0 0] 25 (0, 0)) ∧ Below w.heap.size w wr)
    (fun i _ => n - (intOf i).toNat)
  case atStart =>
    refine ⟨0, .map [], Nat.zero_le _, rfl, ?_, counted_nil, ?_, ?_⟩
    · have := World.ownsMap_made (w.alloc (.cells #[.int .i64 0, .slice none 0 0] 25)) Tryd.prog 3 (plainElem (H := Unit) Tryd.prog 3)
      rwa [em] at this
    · exact (Below.heap_alloc _ _ _ (by simp)).trans (heap_alloc_new w _)
    · exact ((Below.refl w.heap.size w).alloc (Nat.le_refl _) _).alloc (by simp) _
  case round =>
    obtain ⟨k, D, hk, rfl, hown, hcnt, b0, hB⟩ := hrel
    have hbl := hown.lt
    by_cases hlt : k < n
    · have hd : decide ((k : Int) < (n : Int)) = true := decide_eq_true (by omega)
      obtain ⟨ad, rfl, hcell⟩ := C_cell (Kd.C_below hC hB) k hlt
      have hin : xs.getD k 0 ∈ xs := by simp [List.getD, List.getElem?_eq_getElem (show k < xs.length by omega)]
      have htk : (xs.take (k + 1)).map bk = (xs.take k).map bk ++ [bk (xs.getD k 0)] := by
        rw [List.take_succ_eq_append_getElem (by omega), List.map_append]
        congr 1
        simp [List.getD, List.getElem?_eq_getElem (show k < xs.length by omega)]
      have hkm : k < maxLen := by
        have : (20000 : Nat) < maxLen := by decide
        omega
      generalize xs.getD k 0 = y at hcell hin htk
      have hcall := fun q => measure_bucket.calls kb bits y (bk y) q (hbk y hin)
      have hwy := hwb y hin
      generalize bk y = z at hcall hwy htk
      have hat0 : D.atKey (.int .i64 z) (.lit (.int .i64 0)) = .lit (.int .i64 ((((xs.take k).map bk).count z : Nat) : Int)) := by
        obtain ⟨c0, _, h0, _⟩ := hown.lookup_int law3 Tryd.underlying58 Tryd.underlying3 (zero3 _) (keyOf_int_mk Tryd.underlying3 hwy)
        have := hcnt.val z
        unfold Go.Proofs.YtlkameeaaplonaaDoor.val at this
        rw [h0] at this
        rw [h0, ← this]
      have hcl : ((xs.take k).map bk).count z ≤ k := by
        have := List.count_le_length (a := z) (l := (xs.take k).map bk)
        rw [List.length_map, List.length_take] at this
        omega
      generalize hcz : ((xs.take k).map bk).count z = cz at hat0 hcl
      have wfc : (Lit.int .i64 ((cz : Int) + 1)).wf = true := WalkArith.wf_i64 (by omega)
      have hcz' := Aside0.mk hcz
      clear hcz
      go_wp2_with (first
        | (go_at_call 38; refine (hcall _).mono ?_; rintro e w' ⟨rfl, ⟨nd, rfl⟩⟩)
        | (at_lookup; refine wpList_lookup_own_int _ rfl _ _ 58 rfl 3 3 .i64 law3 Tryd.underlying58 Tryd.underlying3 (zero3 _) (w.heap.size + 1) k _ rfl (show World.ownsMap (wr.drewN nd) _ _ _ _ _ _ from hown) _ _ rfl (keyOf_int_mk Tryd.underlying3 hwy) ?_; intro cc hat hwc; obtain rfl : (cz : Int) = cc := (by rw [hat0] at hat; simpa using hat))
        | (at_mapUpdate; refine wpList_mapUpdate_own _ rfl _ _ _ 58 rfl 3 3 law3 Tryd.underlying58 _ (w.heap.size + 1) k _ rfl (show World.ownsMap (wr.drewN nd) _ _ _ _ _ _ from hown) hkm _ _ _ rfl rfl (keyOf_int_mk Tryd.underlying3 hwy) _ [] (plainElem_int Tryd.underlying3 (wfc : (Lit.int .i64 ((cz : Int) + 1)).wf = true)) ?_; intro w1 hown1 hgrow1)
        | go_in)
      have hgr : wr.grownBy w1 (some (w.heap.size + 1)) := ⟨hgrow1.os, hgrow1.tape, hgrow1.output, hgrow1.size, hgrow1.block⟩
      refine ⟨⟨k + 1, _, by omega, by simp, hown1, ?_, (hgr.block _ (by omega) (fun e => by have := Option.some.inj e; omega)).trans b0, hB.grown hgr (by omega) (fun j hj => by have := Option.some.inj hj; omega)⟩, by simp [intOf]; omega⟩
      rw [htk]
      exact counted_snoc hcnt z hwy _ (by rw [hcz'.out])
    · have : k = n := by omega
      subst this
      have htk : xs.take xs.length = xs := List.take_length
      rw [← hl, htk] at hcnt
      go_wp2_with (first
        | (go_at_call 39; refine (hist35 (w.heap.size + 1) k D bits wr hown (by have := hcnt.size; rw [List.length_map] at this; omega)).mono ?_; rintro e w4 ⟨v4, xs4, rfl, hV4, hB4, hr4, hw4, hm4⟩; have e0 := (hB4.block _ (by omega)).trans b0; obtain ⟨A4, c4, rfl⟩ := Kd.V_slice hV4; have hc00 : w4.cell? ⟨w.heap.size, 0, none⟩ = some (.int .i64 0) := (by simp [World.cell?, e0]); have hc01 : w4.cell? ⟨w.heap.size, 1, none⟩ = some (.slice none 0 0) := (by simp [World.cell?, e0]); have hf40 : w4.frozen? ⟨w.heap.size, 0, none⟩ = false := (by simp [World.frozen?, e0]); have hf41 : w4.frozen? ⟨w.heap.size, 1, none⟩ = false := (by simp [World.frozen?, e0]))
        | go_in)
      have f0 := heap_setCell_same _ w.heap.size 0 _ 25 (.int .i64 bits) e0
      have f1 := heap_setCell_same _ w.heap.size 1 _ 25 (.slice A4 (cnts D xs4).length c4) f0
      (try simp only [Exit.inBlock, Exit.then])
      refine bodyPost_ret (results_cell_row rfl _ _ w.heap.size 25 #[.int .i64 bits, .slice A4 (cnts D xs4).length c4] (0, 0) _ rfl (by simpa using f1) Tryd.underlying25 rfl (by kernel_rfl)) rfl ?_
      refine ⟨_, _, rfl, ?_, ?_, tally_of hcnt hr4 hm4⟩
      · have hsz := hB4.size
        exact Kd.V_mono (Kd.V_far (Kd.V_far hV4 (p := ⟨w.heap.size, 0, none⟩) (fun k hk e => by have e' : k = w.heap.size := e; omega) _) (p := ⟨w.heap.size, 1, none⟩) (fun k hk e => by have e' : k = w.heap.size := e; omega) _) (fun k hk => by omega)
      · exact ((hB.trans (Below.mono hB4 (by omega))).setCell (p := ⟨w.heap.size, 0, none⟩) (by simp) _).setCell (p := ⟨w.heap.size, 1, none⟩) (by simp) _
set_option maxRecDepth 100000 in
set_option maxHeartbeats 4000000 in
theorem Of11 (bits : Int) (kb : Nat) (bk : Int → Int) (A : Option Addr) (n c : Nat) (xs : List Int) (w : World) (hC : Kd.C (Kd.int .i64) w A n xs) (hfl : fault bits xs = 0)
    (hbk : ∀ x ∈ xs, measure_bucket.f kb bits x = some (bk x)) (hwb : ∀ x ∈ xs, (Lit.int .i64 (bk x)).wf = true) :
    Calls Tryd.prog 12 #[.int .i64 bits, .slice A n c] w fun e w' => ∃ v r, e = .returned (.tuple #[.agg #[.int .i64 bits, v], .int .i64 0]) ∧ Kd.V k44 44 w' w.heap.size (fun k => w.heap.size ≤ k) v r ∧ Below w.heap.size w w' ∧ IsTally (xs.map bk) r := by
  have hl := hC.1
  have hn : n ≤ 20000 := by
    unfold fault at hfl
    split at hfl
    · cases hfl
    · split at hfl
      · cases hfl
      · omega
  go_enter Tryd.func12, Tryd.ntmps12
  go_wp2_with (first
    | (go_at_call 32; refine (chk22 bits A n c xs _ (Kd.C_below hC ((Below.refl _ _).alloc (Nat.le_refl _) _))).mono ?_; rw [hfl]; rintro e w' ⟨rfl, q, rfl⟩)
    | (go_at_call 33; refine (of23 bits kb bk A n c xs _ (Kd.C_below hC (pw_below_drewN ((Below.refl _ _).alloc (Nat.le_refl _) _) q)) hn hbk hwb).mono ?_; rintro e w4 ⟨v4, r4, rfl, hV4, hB4, ht4⟩; have es : ((w.alloc (.cells #[.int .i64 0, .slice none 0 0] 25)).drewN q).heap.size = w.heap.size + 1 := (by show (w.alloc (.cells #[.int .i64 0, .slice none 0 0] 25)).heap.size = _; simp); have e0 := (hB4.block w.heap.size (by rw [es]; omega)).trans (show ((w.alloc (.cells #[.int .i64 0, .slice none 0 0] 25)).drewN q).heap[w.heap.size]? = _ from heap_alloc_new w _); obtain ⟨A4, c4, rfl⟩ := Kd.V_slice hV4; have hc00 : w4.cell? ⟨w.heap.size, 0, none⟩ = some (.int .i64 0) := (by simp [World.cell?, e0]); have hc01 : w4.cell? ⟨w.heap.size, 1, none⟩ = some (.slice none 0 0) := (by simp [World.cell?, e0]); have hf40 : w4.frozen? ⟨w.heap.size, 0, none⟩ = false := (by simp [World.frozen?, e0]); have hf41 : w4.frozen? ⟨w.heap.size, 1, none⟩ = false := (by simp [World.frozen?, e0]))
    | go_in)
  have f0 := heap_setCell_same _ w.heap.size 0 _ 25 (.int .i64 bits) e0
  have f1 := heap_setCell_same _ w.heap.size 1 _ 25 (.slice A4 r4.length c4) f0
  (try simp only [Exit.inBlock, Exit.then])
  refine bodyPost_ret (results_ct rfl _ _ w.heap.size 25 #[.int .i64 bits, .slice A4 r4.length c4] (0, 0) _ rfl (by simpa using f1) Tryd.underlying25 rfl (by kernel_rfl)) rfl ?_
  rw [es] at hV4 hB4
  refine ⟨_, _, rfl, ?_, ?_, ht4⟩
  · exact Kd.V_mono (Kd.V_far (Kd.V_far hV4 (p := ⟨w.heap.size, 0, none⟩) (fun k hk e => by have e' : k = w.heap.size := e; omega) _) (p := ⟨w.heap.size, 1, none⟩) (fun k hk e => by have e' : k = w.heap.size := e; omega) _) (fun k hk => by omega)
  · have hB1 : Below w.heap.size w ((w.alloc (.cells #[.int .i64 0, .slice none 0 0] 25)).drewN q) := pw_below_drewN ((Below.refl _ _).alloc (Nat.le_refl _) _) q
    exact ((hB1.trans (Below.mono hB4 (by omega))).setCell (p := ⟨w.heap.size, 0, none⟩) (by simp) _).setCell (p := ⟨w.heap.size, 1, none⟩) (by simp) _
/-- Of with a fault: nothing is laid. -/
theorem Of11f (bits : Int) (A : Option Addr) (n c : Nat) (xs : List Int) (w : World) (hC : Kd.C (Kd.int .i64) w A n xs) (hfl : fault bits xs ≠ 0) :
    Calls Tryd.prog 12 #[.int .i64 bits, .slice A n c] w fun e w' => e = .returned (.tuple #[.agg #[.int .i64 0, .slice none 0 0], .int .i64 (fault bits xs)]) ∧ Below w.heap.size w w' := by
  generalize hf : fault bits xs = f at hfl
  have hd : decide (f = 0) = false := decide_eq_false hfl
  have hchk := fun W hW => chk22 bits A n c xs W hW
  rw [hf] at hchk
  go_enter Tryd.func12, Tryd.ntmps12
  go_wp2_with (go_at_call 32; refine (hchk _ (Kd.C_below hC ((Below.refl _ _).alloc (Nat.le_refl _) _))).mono ?_; rintro e w' ⟨rfl, q, rfl⟩)
  have e0 : ((w.alloc (.cells #[.int .i64 0, .slice none 0 0] 25)).drewN q).heap[w.heap.size]? = some (.cells #[.int .i64 0, .slice none 0 0] 25 (0, 0)) := heap_alloc_new w _
  have f0 := heap_setCell_same _ w.heap.size 0 _ 25 (.int .i64 0) e0
  have f1 := heap_setCell_same _ w.heap.size 1 _ 25 (.slice none 0 0) f0
  (try simp only [Exit.inBlock, Exit.then])
  refine bodyPost_ret (results_ct rfl _ _ w.heap.size 25 #[.int .i64 0, .slice none 0 0] (0, 0) _ rfl (by simpa using f1) Tryd.underlying25 rfl (by kernel_rfl)) rfl ?_
  refine ⟨rfl, ?_⟩
  have hB1 : Below w.heap.size w ((w.alloc (.cells #[.int .i64 0, .slice none 0 0] 25)).drewN q) := pw_below_drewN ((Below.refl _ _).alloc (Nat.le_refl _) _) q
  exact (hB1.setCell (p := ⟨w.heap.size, 0, none⟩) (by simp) _).setCell (p := ⟨w.heap.size, 1, none⟩) (by simp) _
theorem rising_ext : ∀ (l1 l2 : List S44), (l1.map (·.f0)).Pairwise (· < ·) → (l2.map (·.f0)).Pairwise (· < ·) → (∀ s, s ∈ l1 ↔ s ∈ l2) → l1 = l2
  | [], [], _, _, _ => rfl
  | [], y :: r, _, _, h => absurd ((h y).2 (by simp)) (by simp)
  | x :: r, [], _, _, h => absurd ((h x).1 (by simp)) (by simp)
  | x :: r1, y :: r2, h1, h2, h => by
    rw [List.map_cons, List.pairwise_cons] at h1 h2
    have lt1 : ∀ s ∈ r1, x.f0 < s.f0 := fun s hs => h1.1 _ (List.mem_map.2 ⟨s, hs, rfl⟩)
    have lt2 : ∀ s ∈ r2, y.f0 < s.f0 := fun s hs => h2.1 _ (List.mem_map.2 ⟨s, hs, rfl⟩)
    have hxy : x = y := by
      rcases List.mem_cons.1 ((h x).1 (by simp)) with e | hx
      · exact e
      · rcases List.mem_cons.1 ((h y).2 (by simp)) with e | hy
        · exact e.symm
        · have := lt1 y hy
          have := lt2 x hx
          omega
    subst hxy
    congr 1
    refine rising_ext r1 r2 h1.2 h2.2 fun s => ⟨fun hs => ?_, fun hs => ?_⟩
    · rcases List.mem_cons.1 ((h s).1 (by simp [hs])) with e | h'
      · have := lt1 s hs
        rw [e] at this
        omega
      · exact h'
    · rcases List.mem_cons.1 ((h s).2 (by simp [hs])) with e | h'
      · have := lt2 s hs
        rw [e] at this
        omega
      · exact h'
theorem tally_unique {bs : List Int} {r1 r2 : List S44} (h1 : IsTally bs r1) (h2 : IsTally bs r2) : r1 = r2 :=
  rising_ext r1 r2 h1.rising h2.rising fun s => by rw [h1.mem, h2.mem]
def bk3 (x : Int) : Int := if x = 1 then 1 else 4
theorem tally3 : IsTally ([5, 1, 4].map bk3) [⟨1, 1⟩, ⟨4, 2⟩] := by
  refine ⟨by decide, fun s => ?_⟩
  have e : [5, 1, 4].map bk3 = [4, 1, 4] := by decide
  rw [e]
  obtain ⟨a, b⟩ := s
  simp only [List.mem_cons, List.not_mem_nil, or_false, S44.mk.injEq]
  constructor
  · rintro (⟨rfl, rfl⟩ | ⟨rfl, rfl⟩)
    · exact ⟨by decide, by decide⟩
    · exact ⟨by decide, by decide⟩
  · rintro ⟨h1, h2⟩
    rcases h1 with rfl | rfl | rfl
    · exact .inr ⟨rfl, h2⟩
    · exact .inl ⟨rfl, h2⟩
    · exact .inr ⟨rfl, h2⟩
end Go.Proofs.YtlkameeaaplonaaDoor
