/- of: the values of a list, counted in their buckets; Of with its checks. Conditions: bucket answers for each value. -/
import Derived.Test.YtlkameeaaplonaaDoorMeasOf
namespace Go.Proofs.YtlkameeaaplonaaDoor
open Go.Shelf Go.RowKit Go.Maps Go.Proofs.YtlkameeaaplonaaDoor.QMeasureMergeIsTogether
open Go.Proofs.YtlkameeaaplonaaDoorW.PrintWords
/-- A map of counts of what stands on a list. -/
structure Counted (D : DataW Unit) (bs : List Int) : Prop where
  tidy : Tidy D
  size : Maps.size D ≤ bs.length
  has : ∀ x, has D (.int .i64 x) = bs.contains x
  val : ∀ x, val D x = (bs.count x : Int)
theorem counted_nil : Counted (.map []) [] := ⟨tidy_empty, Nat.le_refl _, fun _ => rfl, fun _ => rfl⟩
theorem counted_snoc {D : DataW Unit} {bs : List Int} (h : Counted D bs) (x : Int) (hx : (Lit.int .i64 x).wf = true) (d : Int) (hd : d = (bs.count x : Int) + 1) : Counted (D.put (.int .i64 x) (.lit (.int .i64 d))) (bs ++ [x]) := by
  have hk : WideAt.IsKeyLit (Lit.int .i64 x) := trivial
  refine ⟨h.tidy.put hk _, ?_, fun y => ?_, fun y => ?_⟩
  · rw [size_put h.tidy, List.length_append]
    have := h.size
    split <;> simp <;> omega
  · by_cases hy : y = x
    · subst hy
      rw [has_put_same h.tidy.isMap hk]
      simp
    · rw [has_put_other (by simpa using hy), h.has]
      simp [hy]
  · by_cases hy : y = x
    · subst hy
      unfold Go.Proofs.YtlkameeaaplonaaDoor.val
      rw [atKey_put_same h.tidy.isMap hk]
      simp [hd]
    · have hv := h.val y
      unfold Go.Proofs.YtlkameeaaplonaaDoor.val at hv ⊢
      rw [atKey_put_other (by simpa using hy), hv]
      simp [List.count_append, Ne.symm hy]
/-- The histogram of the buckets: rising, each with how many there are. -/
structure IsTally (bs : List Int) (r : List S44) : Prop where
  rising : (r.map (·.f0)).Pairwise (· < ·)
  mem : ∀ s : S44, s ∈ r ↔ s.f0 ∈ bs ∧ s.f1 = (bs.count s.f0 : Int)
theorem cnts_all (D : DataW Unit) : ∀ xs : List Int, (∀ x ∈ xs, 0 < val D x) → cnts D xs = xs.map fun x => ⟨x, val D x⟩
  | [], _ => rfl
  | x :: r, h => by
    rw [cnts, if_pos (h x (by simp)), cnts_all D r (fun y hy => h y (by simp [hy])), List.map_cons]
theorem tally_of {D : DataW Unit} {bs xs : List Int} (h : Counted D bs) (hr : Rising xs) (hm : ∀ x, x ∈ xs ↔ has D (.int .i64 x) = true) : IsTally bs (cnts D xs) := by
  have hm' : ∀ x, x ∈ xs ↔ x ∈ bs := fun x => by rw [hm, h.has]; simp
  have hp : ∀ x ∈ xs, 0 < val D x := fun x hx => by
    rw [h.val]
    have := List.count_pos_iff.2 ((hm' x).1 hx)
    omega
  rw [cnts_all D xs hp]
  refine ⟨?_, fun s => ?_⟩
  · rw [List.map_map]
    have : (fun x => x.f0) ∘ (fun x => (⟨x, val D x⟩ : S44)) = id := rfl
    rw [this, List.map_id]
    exact hr
  · rw [List.mem_map]
    constructor
    · rintro ⟨x, hx, rfl⟩
      exact ⟨(hm' x).1 hx, h.val x⟩
    · rintro ⟨h1, h2⟩
      exact ⟨s.f0, (hm' _).2 h1, by rw [h.val, ← h2]⟩
set_option maxRecDepth 100000 in
set_option maxHeartbeats 4000000 in
theorem of23 (bits : Int) (kb : Nat) (bk : Int → Int) (A : Option Addr) (n c : Nat) (xs : List Int) (w : World) (hC : Kd.C (Kd.int .i64) w A n xs) (hn : n ≤ 20000)
    (hbk : ∀ x ∈ xs, measure_bucket.f kb bits x = some (bk x)) (hwb : ∀ x ∈ xs, (Lit.int .i64 (bk x)).wf = true) :
    Calls Tryd.prog 33 #[.int .i64 bits, .slice A n c] w fun e w' => ∃ v r, e = .returned (.agg #[.int .i64 bits, v]) ∧ Kd.V k44 44 w' w.heap.size (fun k => w.heap.size ≤ k) v r ∧ Below w.heap.size w w' ∧ IsTally (xs.map bk) r := by
  have hl := hC.1
  have hmm := @run_makeMap Tryd.prog
  go_enter Tryd.func33, Tryd.ntmps33
  go_wp2
  have em : (w.alloc (.cells #[.int .i64 0, .slice none 0 0] 25)).heap.size = w.heap.size + 1 := by simp
  go_loopw [11] (fun i wr => ∃ (k : Nat) (D : DataW Unit), k ≤ n ∧ i = .int .i64 k ∧ wr.ownsMap Tryd.prog 3 (plainElem Tryd.prog 3) (w.heap.size + 1) k D ∧ Counted D ((xs.take k).map bk) ∧
      wr.heap[w.heap.size]? = some (.cells #[.int .i64 0, .slice none 0 0] 25 (0, 0)) ∧ Below w.heap.size w wr)
    (fun i _ => n - (intOf i).toNat)
  case atStart =>
    refine ⟨0, .map [], Nat.zero_le _, rfl, ?_, counted_nil, ?_, ?_⟩
    · have := World.ownsMap_made (w.alloc (.cells #[.int .i64 0, .slice none 0 0] 25)) Tryd.prog 3 (plainElem (H := Unit) Tryd.prog 3)
      rwa [em] at this
    · exact (Below.heap_alloc _ _ _ (by simp)).trans (heap_alloc_new w _)
    · exact ((Below.refl w.heap.size w).alloc (Nat.le_refl _) _).alloc (by simp) _
  case round =>
    obtain ⟨k, D, hk, rfl, hown, hcnt, b0, hB⟩ := hrel
    have hbl := hown.lt
    by_cases hlt : k < n
    · have hd : decide ((k : Int) < (n : Int)) = true := decide_eq_true (by omega)
      obtain ⟨ad, rfl, hcell⟩ := C_cell (Kd.C_below hC hB) k hlt
      have hin : xs.getD k 0 ∈ xs := by simp [List.getD, List.getElem?_eq_getElem (show k < xs.length by omega)]
      have htk : (xs.take (k + 1)).map bk = (xs.take k).map bk ++ [bk (xs.getD k 0)] := by
        rw [List.take_succ_eq_append_getElem (by omega), List.map_append]
        congr 1
        simp [List.getD, List.getElem?_eq_getElem (show k < xs.length by omega)]
      have hkm : k < maxLen := by
        have : (20000 : Nat) < maxLen := by decide
        omega
      generalize xs.getD k 0 = y at hcell hin htk
      have hcall := fun q => measure_bucket.calls kb bits y (bk y) q (hbk y hin)
      have hwy := hwb y hin
      generalize bk y = z at hcall hwy htk
      have hat0 : D.atKey (.int .i64 z) (.lit (.int .i64 0)) = .lit (.int .i64 ((((xs.take k).map bk).count z : Nat) : Int)) := by
        obtain ⟨c0, _, h0, _⟩ := hown.lookup_int law3 Tryd.underlying58 Tryd.underlying3 (zero3 _) (keyOf_int_mk Tryd.underlying3 hwy)
        have := hcnt.val z
        unfold Go.Proofs.YtlkameeaaplonaaDoor.val at this
        rw [h0] at this
        rw [h0, ← this]
      have hcl : ((xs.take k).map bk).count z ≤ k := by
        have := List.count_le_length (a := z) (l := (xs.take k).map bk)
        rw [List.length_map, List.length_take] at this
        omega
      generalize hcz : ((xs.take k).map bk).count z = cz at hat0 hcl
      have wfc : (Lit.int .i64 ((cz : Int) + 1)).wf = true := WalkArith.wf_i64 (by omega)
      have hcz' := Aside0.mk hcz
      clear hcz
      go_wp2_with (first
        | (go_at_call 38; refine (hcall _).mono ?_; rintro e w' ⟨rfl, ⟨nd, rfl⟩⟩)
        | (at_lookup; refine wpList_lookup_own_int _ rfl _ _ 58 rfl 3 3 .i64 law3 Tryd.underlying58 Tryd.underlying3 (zero3 _) (w.heap.size + 1) k _ rfl (show World.ownsMap (wr.drewN nd) _ _ _ _ _ _ from hown) _ _ rfl (keyOf_int_mk Tryd.underlying3 hwy) ?_; intro cc hat hwc; obtain rfl : (cz : Int) = cc := (by rw [hat0] at hat; simpa using hat))
        | (at_mapUpdate; refine wpList_mapUpdate_own _ rfl _ _ _ 58 rfl 3 3 law3 Tryd.underlying58 _ (w.heap.size + 1) k _ rfl (show World.ownsMap (wr.drewN nd) _ _ _ _ _ _ from hown) hkm _ _ _ rfl rfl (keyOf_int_mk Tryd.underlying3 hwy) _ [] (plainElem_int Tryd.underlying3 (wfc : (Lit.int .i64 ((cz : Int) + 1)).wf = true)) ?_; intro w1 hown1 hgrow1)
        | go_in)
      have hgr : wr.grownBy w1 (some (w.heap.size + 1)) := ⟨hgrow1.os, hgrow1.tape, hgrow1.output, hgrow1.size, hgrow1.block⟩
      refine ⟨⟨k + 1, _, by omega, by simp, hown1, ?_, (hgr.block _ (by omega) (fun e => by have := Option.some.inj e; omega)).trans b0, hB.grown hgr (by omega) (fun j hj => by have := Option.some.inj hj; omega)⟩, by simp [intOf]; omega⟩
      rw [htk]
      exact counted_snoc hcnt z hwy _ (by rw [hcz'.out])
    · have : k = n := by omega
      subst this
      have htk : xs.take xs.length = xs := List.take_length
      rw [← hl, htk] at hcnt
      go_wp2_with (first
        | (go_at_call 39; refine (hist35 (w.heap.size + 1) k D bits wr hown (by have := hcnt.size; rw [List.length_map] at this; omega)).mono ?_; rintro e w4 ⟨v4, xs4, rfl, hV4, hB4, hr4, hw4, hm4⟩; have e0 := (hB4.block _ (by omega)).trans b0; obtain ⟨A4, c4, rfl⟩ := Kd.V_slice hV4; have hc00 : w4.cell? ⟨w.heap.size, 0, none⟩ = some (.int .i64 0) := (by simp [World.cell?, e0]); have hc01 : w4.cell? ⟨w.heap.size, 1, none⟩ = some (.slice none 0 0) := (by simp [World.cell?, e0]); have hf40 : w4.frozen? ⟨w.heap.size, 0, none⟩ = false := (by simp [World.frozen?, e0]); have hf41 : w4.frozen? ⟨w.heap.size, 1, none⟩ = false := (by simp [World.frozen?, e0]))
        | go_in)
      have f0 := heap_setCell_same _ w.heap.size 0 _ 25 (.int .i64 bits) e0
      have f1 := heap_setCell_same _ w.heap.size 1 _ 25 (.slice A4 (cnts D xs4).length c4) f0
      (try simp only [Exit.inBlock, Exit.then])
      refine bodyPost_ret (results_cell_row rfl _ _ w.heap.size 25 #[.int .i64 bits, .slice A4 (cnts D xs4).length c4] (0, 0) _ rfl (by simpa using f1) Tryd.underlying25 rfl (by kernel_rfl)) rfl ?_
      refine ⟨_, _, rfl, ?_, ?_, tally_of hcnt hr4 hm4⟩
      · have hsz := hB4.size
        exact Kd.V_mono (Kd.V_far (Kd.V_far hV4 (p := ⟨w.heap.size, 0, none⟩) (fun k hk e => by have e' : k = w.heap.size := e; omega) _) (p := ⟨w.heap.size, 1, none⟩) (fun k hk e => by have e' : k = w.heap.size := e; omega) _) (fun k hk => by omega)
      · exact ((hB.trans (Below.mono hB4 (by omega))).setCell (p := ⟨w.heap.size, 0, none⟩) (by simp) _).setCell (p := ⟨w.heap.size, 1, none⟩) (by simp) _
set_option maxRecDepth 100000 in
set_option maxHeartbeats 4000000 in
theorem Of11 (bits : Int) (kb : Nat) (bk : Int → Int) (A : Option Addr) (n c : Nat) (xs : List Int) (w : World) (hC : Kd.C (Kd.int .i64) w A n xs) (hfl : fault bits xs = 0)
    (hbk : ∀ x ∈ xs, measure_bucket.f kb bits x = some (bk x)) (hwb : ∀ x ∈ xs, (Lit.int .i64 (bk x)).wf = true) :
    Calls Tryd.prog 12 #[.int .i64 bits, .slice A n c] w fun e w' => ∃ v r, e = .returned (.tuple #[.agg #[.int .i64 bits, v], .int .i64 0]) ∧ Kd.V k44 44 w' w.heap.size (fun k => w.heap.size ≤ k) v r ∧ Below w.heap.size w w' ∧ IsTally (xs.map bk) r := by
  have hl := hC.1
  have hn : n ≤ 20000 := by
    unfold fault at hfl
    split at hfl
    · cases hfl
    · split at hfl
      · cases hfl
      · omega
  go_enter Tryd.func12, Tryd.ntmps12
  go_wp2_with (first
    | (go_at_call 32; refine (chk22 bits A n c xs _ (Kd.C_below hC ((Below.refl _ _).alloc (Nat.le_refl _) _))).mono ?_; rw [hfl]; rintro e w' ⟨rfl, q, rfl⟩)
    | (go_at_call 33; refine (of23 bits kb bk A n c xs _ (Kd.C_below hC (pw_below_drewN ((Below.refl _ _).alloc (Nat.le_refl _) _) q)) hn hbk hwb).mono ?_; rintro e w4 ⟨v4, r4, rfl, hV4, hB4, ht4⟩; have es : ((w.alloc (.cells #[.int .i64 0, .slice none 0 0] 25)).drewN q).heap.size = w.heap.size + 1 := (by show (w.alloc (.cells #[.int .i64 0, .slice none 0 0] 25)).heap.size = _; simp); have e0 := (hB4.block w.heap.size (by rw [es]; omega)).trans (show ((w.alloc (.cells #[.int .i64 0, .slice none 0 0] 25)).drewN q).heap[w.heap.size]? = _ from heap_alloc_new w _); obtain ⟨A4, c4, rfl⟩ := Kd.V_slice hV4; have hc00 : w4.cell? ⟨w.heap.size, 0, none⟩ = some (.int .i64 0) := (by simp [World.cell?, e0]); have hc01 : w4.cell? ⟨w.heap.size, 1, none⟩ = some (.slice none 0 0) := (by simp [World.cell?, e0]); have hf40 : w4.frozen? ⟨w.heap.size, 0, none⟩ = false := (by simp [World.frozen?, e0]); have hf41 : w4.frozen? ⟨w.heap.size, 1, none⟩ = false := (by simp [World.frozen?, e0]))
    | go_in)
  have f0 := heap_setCell_same _ w.heap.size 0 _ 25 (.int .i64 bits) e0
  have f1 := heap_setCell_same _ w.heap.size 1 _ 25 (.slice A4 r4.length c4) f0
  (try simp only [Exit.inBlock, Exit.then])
  refine bodyPost_ret (results_ct rfl _ _ w.heap.size 25 #[.int .i64 bits, .slice A4 r4.length c4] (0, 0) _ rfl (by simpa using f1) Tryd.underlying25 rfl (by kernel_rfl)) rfl ?_
  rw [es] at hV4 hB4
  refine ⟨_, _, rfl, ?_, ?_, ht4⟩
  · exact Kd.V_mono (Kd.V_far (Kd.V_far hV4 (p := ⟨w.heap.size, 0, none⟩) (fun k hk e => by have e' : k = w.heap.size := e; omega) _) (p := ⟨w.heap.size, 1, none⟩) (fun k hk e => by have e' : k = w.heap.size := e; omega) _) (fun k hk => by omega)
  · have hB1 : Below w.heap.size w ((w.alloc (.cells #[.int .i64 0, .slice none 0 0] 25)).drewN q) := pw_below_drewN ((Below.refl _ _).alloc (Nat.le_refl _) _) q
    exact ((hB1.trans (Below.mono hB4 (by omega))).setCell (p := ⟨w.heap.size, 0, none⟩) (by simp) _).setCell (p := ⟨w.heap.size, 1, none⟩) (by simp) _
/-- Of with a fault: nothing is laid. -/
theorem Of11f (bits : Int) (A : Option Addr) (n c : Nat) (xs : List Int) (w : World) (hC : Kd.C (Kd.int .i64) w A n xs) (hfl : fault bits xs ≠ 0) :
    Calls Tryd.prog 12 #[.int .i64 bits, .slice A n c] w fun e w' => e = .returned (.tuple #[.agg #[.int .i64 0, .slice none 0 0], .int .i64 (fault bits xs)]) ∧ Below w.heap.size w w' := by
  generalize hf : fault bits xs = f at hfl
  have hd : decide (f = 0) = false := decide_eq_false hfl
  have hchk := fun W hW => chk22 bits A n c xs W hW
  rw [hf] at hchk
  go_enter Tryd.func12, Tryd.ntmps12
  go_wp2_with (go_at_call 32; refine (hchk _ (Kd.C_below hC ((Below.refl _ _).alloc (Nat.le_refl _) _))).mono ?_; rintro e w' ⟨rfl, q, rfl⟩)
  have e0 : ((w.alloc (.cells #[.int .i64 0, .slice none 0 0] 25)).drewN q).heap[w.heap.size]? = some (.cells #[.int .i64 0, .slice none 0 0] 25 (0, 0)) := heap_alloc_new w _
  have f0 := heap_setCell_same _ w.heap.size 0 _ 25 (.int .i64 0) e0
  have f1 := heap_setCell_same _ w.heap.size 1 _ 25 (.slice none 0 0) f0
  (try simp only [Exit.inBlock, Exit.then])
  refine bodyPost_ret (results_ct rfl _ _ w.heap.size 25 #[.int .i64 0, .slice none 0 0] (0, 0) _ rfl (by simpa using f1) Tryd.underlying25 rfl (by kernel_rfl)) rfl ?_
  refine ⟨rfl, ?_⟩
  have hB1 : Below w.heap.size w ((w.alloc (.cells #[.int .i64 0, .slice none 0 0] 25)).drewN q) := pw_below_drewN ((Below.refl _ _).alloc (Nat.le_refl _) _) q
  exact (hB1.setCell (p := ⟨w.heap.size, 0, none⟩) (by simp) _).setCell (p := ⟨w.heap.size, 1, none⟩) (by simp) _
theorem rising_ext : ∀ (l1 l2 : List S44), (l1.map (·.f0)).Pairwise (· < ·) → (l2.map (·.f0)).Pairwise (· < ·) → (∀ s, s ∈ l1 ↔ s ∈ l2) → l1 = l2
  | [], [], _, _, _ => rfl
  | [], y :: r, _, _, h => absurd ((h y).2 (by simp)) (by simp)
  | x :: r, [], _, _, h => absurd ((h x).1 (by simp)) (by simp)
  | x :: r1, y :: r2, h1, h2, h => by
    rw [List.map_cons, List.pairwise_cons] at h1 h2
    have lt1 : ∀ s ∈ r1, x.f0 < s.f0 := fun s hs => h1.1 _ (List.mem_map.2 ⟨s, hs, rfl⟩)
    have lt2 : ∀ s ∈ r2, y.f0 < s.f0 := fun s hs => h2.1 _ (List.mem_map.2 ⟨s, hs, rfl⟩)
    have hxy : x = y := by
      rcases List.mem_cons.1 ((h x).1 (by simp)) with e | hx
      · exact e
      · rcases List.mem_cons.1 ((h y).2 (by simp)) with e | hy
        · exact e.symm
        · have := lt1 y hy
          have := lt2 x hx
          omega
    subst hxy
    congr 1
    refine rising_ext r1 r2 h1.2 h2.2 fun s => ⟨fun hs => ?_, fun hs => ?_⟩
    · rcases List.mem_cons.1 ((h s).1 (by simp [hs])) with e | h'
      · have := lt1 s hs
        rw [e] at this
        omega
      · exact h'
    · rcases List.mem_cons.1 ((h s).2 (by simp [hs])) with e | h'
      · have := lt2 s hs
        rw [e] at this
        omega
      · exact h'
theorem tally_unique {bs : List Int} {r1 r2 : List S44} (h1 : IsTally bs r1) (h2 : IsTally bs r2) : r1 = r2 :=
  rising_ext r1 r2 h1.rising h2.rising fun s => by rw [h1.mem, h2.mem]
def bk3 (x : Int) : Int := if x = 1 then 1 else 4
theorem tally3 : IsTally ([5, 1, 4].map bk3) [⟨1, 1⟩, ⟨4, 2⟩] := by
  refine ⟨by decide, fun s => ?_⟩
  have e : [5, 1, 4].map bk3 = [4, 1, 4] := by decide
  rw [e]
  obtain ⟨a, b⟩ := s
  simp only [List.mem_cons, List.not_mem_nil, or_false, S44.mk.injEq]
  constructor
  · rintro (⟨rfl, rfl⟩ | ⟨rfl, rfl⟩)
    · exact ⟨by decide, by decide⟩
    · exact ⟨by decide, by decide⟩
  · rintro ⟨h1, h2⟩
    rcases h1 with rfl | rfl | rfl
    · exact .inr ⟨rfl, h2⟩
    · exact .inl ⟨rfl, h2⟩
    · exact .inr ⟨rfl, h2⟩
end Go.Proofs.YtlkameeaaplonaaDoor
