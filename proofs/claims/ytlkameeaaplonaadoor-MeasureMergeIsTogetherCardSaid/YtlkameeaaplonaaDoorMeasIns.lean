/- slices.Insert of one number into a row of the call's own: the row with the number at its place. Conditions: the place is not behind the end, the row is short. -/
import Derived.Test.YtlkameeaaplonaaDoorChecked
import Derived.Shelf.Spec.SlicesInsertGrow
import Derived.Maps.OwnRows
import Derived.Laws.Rows
import Derived.WalkKit
namespace Go.Proofs.YtlkameeaaplonaaDoor
open Go.Shelf Go.RowKit
def lays21_ren : Go.Shelf.Ren := ⟨fun | 21 => 60 | 27 => 64 | 28 => 65 | 35 => 68 | 39 => 73 | n => n, fun | 22 => 22 | 3 => 3 | 4 => 4 | 0 => 0 | n => n, fun n => n⟩
theorem lays21 : Lays2.n21 Tryd.prog lays21_ren := {
  mixed := by kernel_rfl
  f21 := Tryd.func60.trans (congrArg some (by kernel_rfl))
  f27 := Tryd.func64.trans (congrArg some (by kernel_rfl))
  f28 := Tryd.func65.trans (congrArg some (by kernel_rfl))
  f35 := Tryd.func68.trans (congrArg some (by kernel_rfl))
  f39 := Tryd.func73.trans (congrArg some (by kernel_rfl))
  t0 := Tryd.underlying0
  a0 := Tryd.isAgg0
  z0 := Tryd.sizeOf0
  v0 := Tryd.zeroValue0
  t3 := Tryd.underlying3
  a3 := Tryd.isAgg3
  z3 := Tryd.sizeOf3
  v3 := Tryd.zeroValue3
  t4 := Tryd.underlying4
  a4 := Tryd.isAgg4
  z4 := Tryd.sizeOf4
  v4 := Tryd.zeroValue4
  t22 := Tryd.underlying22
  a22 := Tryd.isAgg22
  z22 := Tryd.sizeOf22
  v22 := Tryd.zeroValue22
  i3 := by kernel_rfl }

theorem set_cells (g : Nat) (t : TypeId) : ∀ (vs : List Value) (o : Nat) (cur : Array Value) (w : World), w.heap[g]? = some (.cells cur t (0, 0)) → o + vs.length ≤ cur.size →
    ∃ cur' : Array Value, (w.setCells g o vs).heap[g]? = some (.cells cur' t (0, 0)) ∧ cur'.toList = cur.toList.take o ++ (vs ++ cur.toList.drop (o + vs.length))
  | [], o, cur, w, h, _ => ⟨cur, h, by simp⟩
  | v :: r, o, cur, w, h, hl => by
    simp only [List.length_cons] at hl
    have h1 := heap_setCell_same w g o cur t v h
    obtain ⟨cur', h2, h3⟩ := set_cells g t r (o + 1) (cur.setIfInBounds o v) (w.setCell ⟨g, o, none⟩ v) h1 (by simp; omega)
    refine ⟨cur', h2, ?_⟩
    rw [h3]
    have ho : o < cur.toList.length := by simp; omega
    have e1 : (cur.setIfInBounds o v).toList = cur.toList.set o v := by simp
    have e2 : (cur.toList.set o v).take (o + 1) = cur.toList.take o ++ [v] := by
      have hl2 : (cur.toList.take o).length = o := by rw [List.length_take]; omega
      rw [List.take_set, List.take_succ_eq_append_getElem ho, List.set_append, if_neg (by omega), hl2, Nat.sub_self]
      rfl
    have e3 : (cur.toList.set o v).drop (o + 1 + r.length) = cur.toList.drop (o + 1 + r.length) := by rw [List.drop_set_of_lt (by omega)]
    rw [e1, e2, e3]
    simp only [List.append_assoc, List.cons_append, List.nil_append, List.length_cons]
    rw [show o + 1 + r.length = o + (r.length + 1) from by omega]
theorem set_other (g : Nat) : ∀ (vs : List Value) (o : Nat) (w : World) (k : Nat), k ≠ g → (w.setCells g o vs).heap[k]? = w.heap[k]?
  | [], _, _, _, _ => rfl
  | v :: r, o, w, k, hne => (set_other g r (o + 1) (w.setCell ⟨g, o, none⟩ v) k hne).trans (heap_setCell_other w ⟨g, o, none⟩ k v hne)
theorem set_sizes (g : Nat) : ∀ (vs : List Value) (o : Nat) (w : World), (w.setCells g o vs).os = w.os ∧ (w.setCells g o vs).tape = w.tape ∧ (w.setCells g o vs).output = w.output ∧ (w.setCells g o vs).heap.size = w.heap.size
  | [], _, _ => ⟨rfl, rfl, rfl, rfl⟩
  | v :: r, o, w => by
    obtain ⟨a, b, c, d⟩ := set_sizes g r (o + 1) (w.setCell ⟨g, o, none⟩ v)
    exact ⟨a, b, c, d.trans (by simp [World.setCell])⟩
theorem grown_set (g : Nat) (vs : List Value) (o : Nat) (w : World) : w.grownBy (w.setCells g o vs) (some g) := by
  obtain ⟨a, b, c, d⟩ := set_sizes g vs o w
  exact ⟨a, b, c, by omega, fun k _ hne => set_other g vs o w k (fun e => hne (by rw [e]))⟩

/-- The row with one number more. -/
def put (xs : List Int) (i : Nat) (x : Int) : List Int := xs.take i ++ (x :: xs.drop i)
theorem put_length (xs : List Int) (i : Nat) (x : Int) (h : i ≤ xs.length) : (put xs i x).length = xs.length + 1 := by simp [put]; omega

theorem ins (B g1 : Nat) (v : Value) (xs : List Int) (i : Nat) (x : Int) (w : World) (hi : i ≤ xs.length) (hx : (Lit.int .i64 x).wf = true) (hown : w.ownsInts B 3 .i64 v xs)
    (hg1 : w.heap[g1]? = some (.cells #[.int .i64 x] 3 (0, 0))) (hne : v.ownBlock ≠ some g1) (hB : B ≤ w.heap.size) (hs : xs.length + 1 ≤ 17592186044416) :
    Calls Tryd.prog 60 #[v, .int .i64 i, .slice (some ⟨g1, 0, none⟩) 1 1] w fun e w' => ∃ v', e = .returned v' ∧ w'.ownsInts B 3 .i64 v' (put xs i x) ∧ w.grownBy w' v.ownBlock ∧
      (v'.ownBlock = v.ownBlock ∨ ∃ g, v'.ownBlock = some g ∧ w.heap.size ≤ g) := by
  have hvs : ∀ j u, [Value.int .i64 x][j]? = some u → w.cell? ⟨g1, 0 + j, none⟩ = some u := by
    intro j u hj
    match j, hj with
    | 0, hj =>
      simp at hj
      subst hj
      simp [World.cell?, hg1]
  have h1v : ∀ u ∈ [Value.int .i64 x], u.oneCell' = true := by
    intro u hu
    rw [List.mem_singleton.1 hu]
    rfl
  have hwf : ∀ z ∈ put xs i x, (Lit.int .i64 z).wf = true := by
    intro z hz
    unfold put at hz
    rcases List.mem_append.1 hz with hz | hz
    · exact hown.2 z (List.mem_of_mem_take hz)
    · rcases List.mem_cons.1 hz with rfl | hz
      · exact hx
      · exact hown.2 z (List.mem_of_mem_drop hz)
  have hlen := put_length xs i x hi
  have hmap : (put xs i x).map (Value.int .i64) = (xs.map (Value.int .i64)).take i ++ (Value.int .i64 x :: (xs.map (Value.int .i64)).drop i) := by simp [put]
  have h1c : ∀ u ∈ xs.map (Value.int .i64), u.oneCell' = true := by
    intro u hu
    obtain ⟨z, _, rfl⟩ := List.mem_map.1 hu
    rfl
  -- what a new row holds
  have fresh : ∀ (w1 : World) (cap : Nat) (cur : Array Value), w1.heap[w.heap.size]? = some (.cells cur 3 (0, 0)) → xs.length + 1 ≤ cap → cap ≤ maxLen → cur.size = cap → cur.toList.take (xs.length + 1) = (put xs i x).map (Value.int .i64) →
      w1.ownsInts B 3 .i64 (.slice (some ⟨w.heap.size, 0, none⟩) (xs.length + 1) cap) (put xs i x) := by
    intro w1 cap cur h1 h2 h3 h4 h5
    refine ⟨⟨by simp [hlen], .inr ⟨w.heap.size, cap, cur, by rw [hlen], hB, h1, by omega, h3, by omega, ?_⟩⟩, hwf⟩
    rw [hlen, Nat.mul_one]
    exact h5
  have hml : (17592186044416 : Nat) ≤ maxLen := by decide
  have hmx : maxLen ≤ 9223372036854775807 := by decide
  have hz1 : (Value.int .i64 0).cells.size = 1 := rfl
  rcases hown.1.2 with ⟨rfl, h0⟩ | ⟨g, cap, cur, rfl, hbg, hg, hnc, hcm, hcs, htake⟩
  · -- nil
    have hx0 : xs = [] := List.eq_nil_of_length_eq_zero h0
    subst hx0
    have hi0 : i = 0 := by simpa using hi
    subst hi0
    have hcap := grownCap_ge w 1 0 3
    have hcap2 := grownCap_le_maxLen w 1 0 3 (by decide)
    have hc := Any2.slices_Insert_int_end_grow lays21 none 0 0 g1 0 1 1 [] [.int .i64 x] w (by decide) (by decide) (by decide) (by decide) rfl rfl (fun _ => rfl) (fun a h => by cases h) hvs h1v
    refine hc.mono ?_
    rintro e w' ⟨rfl, rfl⟩
    refine ⟨_, rfl, fresh _ _ _ (heap_alloc_new w.drew _) hcap hcap2 ?_ ?_, ⟨rfl, rfl, rfl, by simp, fun k hk _ => Below.heap_alloc w.drew _ k hk⟩, .inr ⟨w.heap.size, rfl, Nat.le_refl _⟩⟩
    · have : lays21_ren.t 3 = 3 := rfl
      rw [this]
      simp only [Array.size_append, List.size_toArray, size_zeroCells, hz1, List.nil_append, List.length_singleton, Nat.zero_add]
      omega
    · simp [put]
  · have hcells : ∀ j u, (xs.map (Value.int .i64))[j]? = some u → w.cell? ⟨g, 0 + j, none⟩ = some u := by
      intro j u hu
      have := hown.1.cells (g := g) rfl j u hu
      rw [Addr.add_lit] at this
      exact this
    have hcur : cur.size = cap := by omega
    have hgne : g1 ≠ g := fun e => hne (by simp [Value.ownBlock, e])
    by_cases hroom : xs.length + 1 ≤ cap
    · have hsome : ∀ j, j < xs.length + 1 → (w.cell? ⟨g, 0 + j, none⟩).isSome = true := by
        intro j hj
        simp [World.cell?, hg]
        omega
      have hfr : ∀ j, w.frozen? ⟨g, j, none⟩ = false := by
        intro j
        simp [World.frozen?, hg]
      by_cases hend : i = xs.length
      · subst hend
        have hc := Any2.slices_Insert_int_end_room lays21 g 0 xs.length cap g1 0 1 1 [.int .i64 x] w (by decide) hroom (by omega) rfl (fun j hj => by rw [show 0 + xs.length + j = 0 + (xs.length + j) from by omega]; exact hsome _ (by omega)) (fun j _ => hfr _) hvs h1v
        refine hc.mono ?_
        rintro e w' ⟨rfl, rfl⟩
        obtain ⟨cur', h1, h2⟩ := set_cells g 3 [.int .i64 x] (0 + xs.length) cur w hg (by simp; omega)
        have h3 : cur'.size = cap := by
          have := congrArg List.length h2
          simp at this
          omega
        refine ⟨_, rfl, ⟨⟨by simp [hlen], .inr ⟨g, cap, cur', by rw [hlen], hbg, h1, by omega, hcm, by omega, ?_⟩⟩, hwf⟩, grown_set _ _ _ _, .inl rfl⟩
        rw [h2, hlen, hmap]
        rw [Nat.mul_one] at htake
        simp only [Nat.zero_add, Nat.mul_one]
        rw [htake, ← List.append_assoc]
        rw [List.take_append_of_le_length (by simp)]
        rw [List.take_of_length_le (by simp)]
        have e1 : (xs.map (Value.int .i64)).take xs.length = xs.map (Value.int .i64) := List.take_of_length_le (by simp)
        have e2 : (xs.map (Value.int .i64)).drop xs.length = [] := List.drop_of_length_le (by simp)
        rw [e1, e2]
      · have hc := Any2.slices_Insert_int_shift lays21 g 0 xs.length cap i g1 0 1 1 (xs.map (Value.int .i64)) [.int .i64 x] w (by omega) (by decide) hroom (by omega) hgne (by simp) rfl hcells hsome (fun j _ => hfr _) hvs h1c h1v 3 3 1 cap
          (by simp [World.shape?, hg1]) (by simp [World.shape?, hg, hcur]) (by omega) (by simp [World.frozen?, hg1]) (by simp [World.frozen?, hg1])
        refine hc.mono ?_
        rintro e w' ⟨rfl, rfl⟩
        obtain ⟨cur1, h1, h2⟩ := set_cells g 3 ((xs.map (Value.int .i64)).drop i) (0 + (i + 1)) cur w.drew hg (by simp; omega)
        have h3 : cur1.size = cap := by
          have := congrArg List.length h2
          simp at this
          omega
        obtain ⟨cur', h4, h5⟩ := set_cells g 3 [.int .i64 x] (0 + i) cur1 _ h1 (by simp; omega)
        have h6 : cur'.size = cap := by
          have := congrArg List.length h5
          simp at this
          omega
        refine ⟨_, rfl, ⟨⟨by simp [hlen], .inr ⟨g, cap, cur', by rw [hlen], hbg, h4, by omega, hcm, by omega, ?_⟩⟩, hwf⟩, ?_, .inl rfl⟩
        · rw [h5, h2, hlen, hmap]
          rw [Nat.mul_one] at htake
          have hl1 : (cur.toList.take (i + 1)).length = i + 1 := by simp; omega
          have e0 : cur.toList.take i = (xs.map (Value.int .i64)).take i := by rw [← htake, List.take_take, Nat.min_eq_left hi]
          simp only [Nat.zero_add, Nat.mul_one, List.length_singleton, List.length_drop, List.length_map]
          rw [show i + 1 + (xs.length - i) = xs.length + 1 from by omega]
          have e1 : (cur.toList.take (i + 1) ++ ((xs.map (Value.int .i64)).drop i ++ cur.toList.drop (xs.length + 1))).take i = (xs.map (Value.int .i64)).take i := by
            rw [List.take_append_of_le_length (by omega), List.take_take, Nat.min_eq_left (by omega), e0]
          have e2 : (cur.toList.take (i + 1) ++ ((xs.map (Value.int .i64)).drop i ++ cur.toList.drop (xs.length + 1))).drop (i + 1) = (xs.map (Value.int .i64)).drop i ++ cur.toList.drop (xs.length + 1) := by
            rw [List.drop_append_of_le_length (by omega), List.drop_of_length_le (by omega), List.nil_append]
          rw [e1, e2]
          have e3 : (xs.map (Value.int .i64)).take i ++ ([Value.int .i64 x] ++ ((xs.map (Value.int .i64)).drop i ++ cur.toList.drop (xs.length + 1))) = ((xs.map (Value.int .i64)).take i ++ (Value.int .i64 x :: (xs.map (Value.int .i64)).drop i)) ++ cur.toList.drop (xs.length + 1) := by simp
          rw [e3]
          exact List.take_left' (by simp; omega)
        · have g1_ := grown_set g ((xs.map (Value.int .i64)).drop i) (0 + (i + 1)) w.drew
          have g2_ := grown_set g [.int .i64 x] (0 + i) (w.drew.setCells g (0 + (i + 1)) ((xs.map (Value.int .i64)).drop i))
          have g3_ := g1_.trans g2_
          exact ⟨g3_.os, g3_.tape, g3_.output, g3_.size, g3_.block⟩
    · have hcap : cap = xs.length := by omega
      have hge := grownCap_ge w (xs.length + 1) cap 3
      have hle := grownCap_le_maxLen w (xs.length + 1) cap 3 (by omega)
      by_cases hend : i = xs.length
      · subst hend
        have hc := Any2.slices_Insert_int_end_grow lays21 (some ⟨g, 0, none⟩) xs.length cap g1 0 1 1 (xs.map (Value.int .i64)) [.int .i64 x] w (by decide) hnc (by omega) (by omega) (by simp) rfl (fun h => by cases h)
          (fun a h j u hu => by cases h; rw [Addr.add_lit]; exact hcells j u hu) hvs h1v
        refine hc.mono ?_
        rintro e w' ⟨rfl, rfl⟩
        refine ⟨_, rfl, fresh _ _ _ (heap_alloc_new w.drew _) hge hle ?_ ?_, ⟨rfl, rfl, rfl, by simp, fun k hk _ => Below.heap_alloc w.drew _ k hk⟩, .inr ⟨w.heap.size, rfl, Nat.le_refl _⟩⟩
        · have : lays21_ren.t 3 = 3 := rfl
          rw [this]
          simp only [Array.size_append, List.size_toArray, size_zeroCells, hz1, List.length_append, List.length_map, List.length_singleton]
          omega
        · rw [hmap]
          have e1 : (xs.map (Value.int .i64)).take xs.length = xs.map (Value.int .i64) := List.take_of_length_le (by simp)
          have e2 : (xs.map (Value.int .i64)).drop xs.length = [] := List.drop_of_length_le (by simp)
          rw [e1, e2]
          simp only [Array.toList_append, List.append_assoc]
          rw [← List.append_assoc]
          exact List.take_left' (by simp)
      · have hc := Any2.slices_Insert_int_grow lays21 g 0 xs.length cap i g1 0 1 1 (xs.map (Value.int .i64)) [.int .i64 x] w (by omega) (by decide) hnc (by omega) (by omega) (by simp) rfl hcells hvs h1c h1v
        refine hc.mono ?_
        rintro e w' ⟨rfl, rfl⟩
        have : lays21_ren.t 3 = 3 := rfl
        rw [this]
        obtain ⟨cur0, hc0⟩ : ∃ c : Array Value, c = (((xs.map (Value.int .i64)).take i).toArray ++ Builtin.zeroCells (Value.int .i64 0).cells (xs.length + 1 - i) ++ Builtin.zeroCells (Value.int .i64 0).cells (grownCap w (xs.length + 1) cap 3 - (xs.length + 1))) := ⟨_, rfl⟩
        rw [← hc0]
        have hs0 : cur0.size = grownCap w (xs.length + 1) cap 3 := by
          rw [hc0]
          have hz : (Value.int .i64 0).cells.size = 1 := rfl
          simp only [Array.size_append, List.size_toArray, List.length_take, List.length_map, size_zeroCells, hz]
          omega
        have ht0 : cur0.toList.take i = (xs.map (Value.int .i64)).take i := by
          rw [hc0]
          simp only [Array.toList_append, List.append_assoc]
          exact List.take_left' (by simp; omega)
        have hz : (w.alloc (.cells cur0 3)).heap[w.heap.size]? = some (.cells cur0 3 (0, 0)) := heap_alloc_new w _
        obtain ⟨cur1, h1, h2⟩ := set_cells w.heap.size 3 [.int .i64 x] i cur0 ((w.alloc (.cells cur0 3)).drew) hz (by simp; omega)
        have h3 : cur1.size = cur0.size := by
          have := congrArg List.length h2
          simp at this
          omega
        obtain ⟨cur', h4, h5⟩ := set_cells w.heap.size 3 ((xs.map (Value.int .i64)).drop i) (i + 1) cur1 (((w.alloc (.cells cur0 3)).drew.setCells w.heap.size i [.int .i64 x]).drew) h1 (by simp; omega)
        have h6 : cur'.size = cur0.size := by
          have := congrArg List.length h5
          simp at this
          omega
        refine ⟨_, rfl, fresh _ _ _ h4 hge hle (by omega) ?_, ?_, .inr ⟨w.heap.size, rfl, Nat.le_refl _⟩⟩
        · rw [h5, h2, ht0, hmap]
          have hl1 : ((xs.map (Value.int .i64)).take i).length = i := by simp; omega
          have e1 : ((xs.map (Value.int .i64)).take i ++ ([Value.int .i64 x] ++ cur0.toList.drop (i + [Value.int .i64 x].length))).take (i + 1) = (xs.map (Value.int .i64)).take i ++ [Value.int .i64 x] := by
            rw [← List.append_assoc]
            exact List.take_left' (by simp; omega)
          rw [e1]
          have e3 : ∀ q : List Value, ((xs.map (Value.int .i64)).take i ++ [Value.int .i64 x]) ++ ((xs.map (Value.int .i64)).drop i ++ q) = ((xs.map (Value.int .i64)).take i ++ (Value.int .i64 x :: (xs.map (Value.int .i64)).drop i)) ++ q := by intro q; simp
          rw [e3]
          exact List.take_left' (by simp; omega)
        · have q1 : w.grownBy ((w.alloc (.cells cur0 3)).drew) (some w.heap.size) := ⟨rfl, rfl, rfl, by simp, fun k hk _ => Below.heap_alloc w _ k hk⟩
          have q2 := grown_set w.heap.size [.int .i64 x] i ((w.alloc (.cells cur0 3)).drew)
          have q3 := grown_set w.heap.size ((xs.map (Value.int .i64)).drop i) (i + 1) (((w.alloc (.cells cur0 3)).drew.setCells w.heap.size i [.int .i64 x]).drew)
          have q4 := (q1.trans q2).trans (⟨q3.os, q3.tape, q3.output, q3.size, q3.block⟩ : ((w.alloc (.cells cur0 3)).drew.setCells w.heap.size i [.int .i64 x]).grownBy _ (some w.heap.size))
          exact ⟨q4.os, q4.tape, q4.output, q4.size, fun k hk _ => q4.block k hk (fun e => by have := Option.some.inj e; omega)⟩
end Go.Proofs.YtlkameeaaplonaaDoor
