/- slices.Sort and slices.Compact of a row of the call's own. Condition: the row is short. -/
import Derived.Test.YtploonojacdflaaChecked
import Derived.Shelf.Sort.Plain
import Derived.Shelf.Slices.CompactI
import Derived.Shelf.Slices.In.SortNone
import Derived.Maps.OwnRows
import Derived.WalkKit
namespace Go.Proofs.Ytploonojacdflaa
open Go.Shelf Go.RowKit
def lays189_ren : Go.Shelf.Ren := ⟨fun | 189 => 29 | 125 => 32 | 257 => 39 | 128 => 40 | 129 => 41 | 294 => 46 | 295 => 47 | 296 => 48 | 297 => 49 | 298 => 50 | 299 => 51 | 216 => 52 | 300 => 53 | 301 => 54 | 328 => 57 | 329 => 58 | 330 => 59 | 331 => 60 | 332 => 61 | 215 => 62 | 343 => 66 | n => n, fun | 28 => 29 | 3 => 3 | 46 => 68 | 0 => 0 | 51 => 81 | 53 => 72 | 4 => 4 | 183 => 92 | 182 => 91 | 131 => 96 | 5 => 5 | 9 => 9 | 218 => 101 | 222 => 105 | 228 => 109 | 229 => 50 | n => n, fun n => n⟩
theorem lays189 : Lays.n189 Try.prog lays189_ren := {
  mixed := by kernel_rfl
  f125 := Try.func32.trans (congrArg some (by kernel_rfl))
  f128 := Try.func40.trans (congrArg some (by kernel_rfl))
  f129 := Try.func41.trans (congrArg some (by kernel_rfl))
  f189 := Try.func29.trans (congrArg some (by kernel_rfl))
  f215 := Try.func62.trans (congrArg some (by kernel_rfl))
  f216 := Try.func52.trans (congrArg some (by kernel_rfl))
  f257 := Try.func39.trans (congrArg some (by kernel_rfl))
  f294 := Try.func46.trans (congrArg some (by kernel_rfl))
  f295 := Try.func47.trans (congrArg some (by kernel_rfl))
  f296 := Try.func48.trans (congrArg some (by kernel_rfl))
  f297 := Try.func49.trans (congrArg some (by kernel_rfl))
  f298 := Try.func50.trans (congrArg some (by kernel_rfl))
  f299 := Try.func51.trans (congrArg some (by kernel_rfl))
  f300 := Try.func53.trans (congrArg some (by kernel_rfl))
  f301 := Try.func54.trans (congrArg some (by kernel_rfl))
  f328 := Try.func57.trans (congrArg some (by kernel_rfl))
  f329 := Try.func58.trans (congrArg some (by kernel_rfl))
  f330 := Try.func59.trans (congrArg some (by kernel_rfl))
  f331 := Try.func60.trans (congrArg some (by kernel_rfl))
  f332 := Try.func61.trans (congrArg some (by kernel_rfl))
  f343 := Try.func66.trans (congrArg some (by kernel_rfl))
  t0 := Try.underlying0
  a0 := Try.isAgg0
  z0 := Try.sizeOf0
  v0 := Try.zeroValue0
  t3 := Try.underlying3
  a3 := Try.isAgg3
  z3 := Try.sizeOf3
  v3 := Try.zeroValue3
  t4 := Try.underlying4
  a4 := Try.isAgg4
  z4 := Try.sizeOf4
  v4 := Try.zeroValue4
  t5 := Try.underlying5
  a5 := Try.isAgg5
  z5 := Try.sizeOf5
  v5 := Try.zeroValue5
  t9 := Try.underlying9
  a9 := Try.isAgg9
  z9 := Try.sizeOf9
  v9 := Try.zeroValue9
  t28 := Try.underlying29
  a28 := Try.isAgg29
  z28 := Try.sizeOf29
  v28 := Try.zeroValue29
  t46 := Try.underlying68
  a46 := Try.isAgg68
  z46 := Try.sizeOf68
  v46 := Try.zeroValue68
  t51 := Try.underlying81
  a51 := Try.isAgg81
  z51 := Try.sizeOf81
  v51 := Try.zeroValue81
  t53 := Try.underlying72
  a53 := Try.isAgg72
  z53 := Try.sizeOf72
  v53 := Try.zeroValue72
  t131 := Try.underlying96
  a131 := Try.isAgg96
  z131 := Try.sizeOf96
  v131 := Try.zeroValue96
  t182 := Try.underlying91
  a182 := Try.isAgg91
  z182 := Try.sizeOf91
  v182 := Try.zeroValue91
  t183 := Try.underlying92
  a183 := Try.isAgg92
  z183 := Try.sizeOf92
  v183 := Try.zeroValue92
  t218 := Try.underlying101
  a218 := Try.isAgg101
  z218 := Try.sizeOf101
  v218 := Try.zeroValue101
  t222 := Try.underlying105
  a222 := Try.isAgg105
  z222 := Try.sizeOf105
  v222 := Try.zeroValue105
  t228 := Try.underlying109
  a228 := Try.isAgg109
  z228 := Try.sizeOf109
  v228 := Try.zeroValue109
  t229 := Try.underlying50
  a229 := Try.isAgg50
  z229 := Try.sizeOf50
  v229 := Try.zeroValue50 }
def lays20_ren : Go.Shelf.Ren := ⟨fun | 20 => 30 | n => n, fun | 22 => 29 | 3 => 3 | 4 => 4 | 0 => 0 | n => n, fun n => n⟩
theorem lays20 : Lays2.n20 Try.prog lays20_ren := {
  mixed := by kernel_rfl
  f20 := Try.func30.trans (congrArg some (by kernel_rfl))
  t0 := Try.underlying0
  a0 := Try.isAgg0
  z0 := Try.sizeOf0
  v0 := Try.zeroValue0
  t3 := Try.underlying3
  a3 := Try.isAgg3
  z3 := Try.sizeOf3
  v3 := Try.zeroValue3
  t4 := Try.underlying4
  a4 := Try.isAgg4
  z4 := Try.sizeOf4
  v4 := Try.zeroValue4
  t22 := Try.underlying29
  a22 := Try.isAgg29
  z22 := Try.sizeOf29
  v22 := Try.zeroValue29
  i3 := by kernel_rfl }

open Go.Sort in
theorem put_heap (w : World) (n g : Nat) (d : Array Int) {cur : Array Value} {e : TypeId} {fr : Nat × Nat} (hg : w.heap[g]? = some (.cells cur e fr)) :
    (putRow (Value.int .i64) (Sort.ahead w n) g 0 d).heap[g]? = some (.cells (putCells (Value.int .i64) 0 d cur) e fr) := by
  simp [putRow, mapBlock, Array.getElem?_modify, hg, onCells]
open Go.Sort in
theorem put_other (w : World) (n g : Nat) (d : Array Int) (k : Nat) (hk : k ≠ g) : (putRow (Value.int .i64) (Sort.ahead w n) g 0 d).heap[k]? = w.heap[k]? := by
  simp [putRow, mapBlock, Array.getElem?_modify, Ne.symm hk]
open Go.Sort in
theorem put_cells (d : Array Int) (cur : Array Value) (h : d.size ≤ cur.size) : (putCells (Value.int .i64) 0 d cur).toList.take d.size = d.toList.map (Value.int .i64) := by
  apply List.ext_getElem?
  intro i
  by_cases hi : i < d.size
  · have hi2 : i < cur.size := by omega
    simp [putCells, hi, hi2]
  · rw [List.getElem?_eq_none (by simp; omega), List.getElem?_eq_none (by simp; omega)]
open Go.Sort in
theorem holds_own {w : World} {B : Nat} {g n c : Nat} {xs : List Int} (h : w.ownsInts B 3 .i64 (.slice (some ⟨g, 0, none⟩) n c) xs) : Holds (Value.int .i64) w g 0 xs.toArray ∧ g < w.heap.size := by
  obtain ⟨e, _⟩ | ⟨gg, cap, cur, e, hbg, hg, hnc, hcm, hcs, htake⟩ := h.1.2
  · cases e
  · simp only [Value.slice.injEq, Option.some.injEq, Addr.mk.injEq] at e
    obtain ⟨⟨rfl, _⟩, _, _⟩ := e
    refine ⟨fun j hj => ⟨?_, by simp [World.frozen?, hg]⟩, (Array.getElem?_eq_some_iff.1 hg).1⟩
    have hj' : j < xs.length := by simpa using hj
    have := h.1.cells (g := g) rfl j (.int .i64 xs[j]) (by simp [hj'])
    rw [Addr.add_lit] at this
    simpa [hj'] using this
theorem compact_eq (xs : List Int) : Lib.compact xs = ((List.range xs.length).filter (Lib.keeps xs.toArray)).map (fun j => xs.getD j 0) := by
  unfold Lib.compact Lib.compactUpTo
  apply List.map_congr_left
  intro j hj
  have : j < xs.length := List.mem_range.1 (List.mem_filter.1 hj).1
  simp [this, List.getD]
theorem compact_length (xs : List Int) : (Lib.compact xs).length ≤ xs.length := by
  rw [compact_eq, List.length_map]
  exact Nat.le_trans (List.length_filter_le _ _) (by simp)
theorem compact_mem_of (xs : List Int) (z : Int) (h : z ∈ Lib.compact xs) : z ∈ xs := by
  rw [compact_eq] at h
  obtain ⟨j, hj, rfl⟩ := List.mem_map.1 h
  have : j < xs.length := List.mem_range.1 (List.mem_filter.1 hj).1
  simp [List.getD, List.getElem?_eq_getElem this]
theorem keeps_iff (xs : List Int) (j : Nat) (hj : j < xs.length) : Lib.keeps xs.toArray j = true ↔ j = 0 ∨ xs.getD j 0 ≠ xs.getD (j - 1) 0 := by
  have h1 : j - 1 < xs.length := by omega
  simp [Lib.keeps, hj, h1, List.getD]
theorem compact_has (xs : List Int) : ∀ (j : Nat), j < xs.length → xs.getD j 0 ∈ Lib.compact xs
  | 0, h => by
    rw [compact_eq]
    exact List.mem_map.2 ⟨0, List.mem_filter.2 ⟨List.mem_range.2 h, (keeps_iff xs 0 h).2 (.inl rfl)⟩, rfl⟩
  | j + 1, h => by
    by_cases hk : xs.getD (j + 1) 0 = xs.getD j 0
    · rw [hk]
      exact compact_has xs j (by omega)
    · rw [compact_eq]
      exact List.mem_map.2 ⟨j + 1, List.mem_filter.2 ⟨List.mem_range.2 h, (keeps_iff xs (j + 1) h).2 (.inr hk)⟩, rfl⟩
theorem compact_mem (xs : List Int) (z : Int) : z ∈ Lib.compact xs ↔ z ∈ xs := by
  refine ⟨compact_mem_of xs z, fun h => ?_⟩
  obtain ⟨j, hj, rfl⟩ := List.getElem_of_mem h
  have := compact_has xs j hj
  simpa [List.getD, List.getElem?_eq_getElem hj] using this
theorem compact_rising (xs : List Int) (hs : xs.Pairwise (· ≤ ·)) : (Lib.compact xs).Pairwise (· < ·) := by
  have hle : ∀ i j, i ≤ j → j < xs.length → xs.getD i 0 ≤ xs.getD j 0 := by
    intro i j hij hj
    by_cases e : i = j
    · subst e; exact Int.le_refl _
    · have := List.pairwise_iff_getElem.1 hs i j (by omega) hj (by omega)
      simpa [List.getD, List.getElem?_eq_getElem hj, List.getElem?_eq_getElem (show i < xs.length by omega)] using this
  rw [compact_eq, List.pairwise_map]
  refine List.Pairwise.imp_of_mem ?_ (List.Pairwise.filter _ (List.pairwise_lt_range (n := xs.length)))
  intro i j hi hj hij
  have hjl : j < xs.length := List.mem_range.1 (List.mem_filter.1 hj).1
  have hk := (keeps_iff xs j hjl).1 (List.mem_filter.1 hj).2
  have h1 := hle i (j - 1) (by omega) (by omega)
  have h2 := hle (j - 1) j (by omega) hjl
  rcases hk with hk | hk
  · omega
  · omega
open Go.Sort in
theorem sort29 (B n c : Nat) (A : Option Addr) (xs : List Int) (w : World) (h : w.ownsInts B 3 .i64 (.slice A n c) xs) (hs : xs.length ≤ 1000000) :
    Calls Try.prog 29 #[.slice A n c] w fun e w' => e = .returned (.tuple #[]) ∧ w'.ownsInts B 3 .i64 (.slice A n c) (xs.mergeSort fun x y => decide (x ≤ y)) ∧ w.grownBy w' (Value.slice A n c).ownBlock := by
  rcases h.1.2 with ⟨e, h0⟩ | ⟨g, cap, cur, e, hbg, hg, hnc, hcm, hcs, htake⟩
  · cases e
    have hx : xs = [] := List.eq_nil_of_length_eq_zero h0
    subst hx
    refine (Any.slices_Sort_int_none lays189 none 0 w).mono ?_
    rintro e w' ⟨rfl, rfl⟩
    exact ⟨rfl, by simpa using h, ⟨rfl, rfl, rfl, Nat.le_refl _, fun _ _ _ => rfl⟩⟩
  · cases e
    obtain ⟨hH, hlt⟩ := holds_own h
    refine (Any.slices_Sort_int lays189 g 0 c xs w hH hlt (by omega)).mono ?_
    rintro e w' ⟨rfl, q, os, rfl⟩
    have hl : (xs.mergeSort fun x y => decide (x ≤ y)).length = xs.length := List.length_mergeSort ..
    have hgp := put_heap w q g (xs.mergeSort fun x y => decide (x ≤ y)).toArray hg
    have hsz : (putRow (Value.int .i64) (Sort.ahead w q) g 0 (xs.mergeSort fun x y => decide (x ≤ y)).toArray).heap.size = w.heap.size := by simp
    have hgg : ∀ k, k < w.heap.size → (grow (putRow (Value.int .i64) (Sort.ahead w q) g 0 (xs.mergeSort fun x y => decide (x ≤ y)).toArray) os).heap[k]? = (putRow (Value.int .i64) (Sort.ahead w q) g 0 (xs.mergeSort fun x y => decide (x ≤ y)).toArray).heap[k]? := by
      intro k hk
      simp only [grow]
      rw [Array.getElem?_append_left (by omega)]
    refine ⟨rfl, ⟨⟨by simp [hl], .inr ⟨g, c, _, by rw [hl], hbg, (hgg g hlt).trans hgp, by omega, hcm, ?_, ?_⟩⟩, ?_⟩, ⟨rfl, rfl, rfl, ?_, fun k hk hne => (hgg k hk).trans (put_other w q g _ k (fun e => hne (by rw [e]; rfl)))⟩⟩
    · simp [putCells, hcs]
    · rw [Nat.mul_one]
      have := put_cells (xs.mergeSort fun x y => decide (x ≤ y)).toArray cur (by simp [hl]; omega)
      simpa using this
    · intro z hz
      exact h.2 z (List.mem_mergeSort.1 hz)
    · simp only [grow, Array.size_append]
      omega
open Go.Sort in
theorem compact30 (B n c : Nat) (A : Option Addr) (xs : List Int) (w : World) (h : w.ownsInts B 3 .i64 (.slice A n c) xs) (hs : xs.length ≤ 1000000) :
    Calls Try.prog 30 #[.slice A n c] w fun e w' => ∃ m, e = .returned (.slice A m c) ∧ w'.ownsInts B 3 .i64 (.slice A m c) (Lib.compact xs) ∧ w.grownBy w' (Value.slice A n c).ownBlock := by
  rcases h.1.2 with ⟨e, h0⟩ | ⟨g, cap, cur, e, hbg, hg, hnc, hcm, hcs, htake⟩
  · cases e
    have hx : xs = [] := List.eq_nil_of_length_eq_zero h0
    subst hx
    refine (Any.slices_Compact_int_empty lays20 none 0 w).mono ?_
    rintro e w' ⟨rfl, rfl⟩
    exact ⟨0, rfl, h, ⟨rfl, rfl, rfl, Nat.le_refl _, fun _ _ _ => rfl⟩⟩
  · cases e
    obtain ⟨hH, hlt⟩ := holds_own h
    refine (Any.slices_Compact_int lays20 g 0 c xs w hH (by omega) hnc).mono ?_
    rintro e w' ⟨rfl, q, rfl⟩
    have hcl := compact_length xs
    have hgp := put_heap w q g (Lib.compact xs ++ List.replicate (xs.length - (Lib.compact xs).length) 0).toArray hg
    have hl : (Lib.compact xs ++ List.replicate (xs.length - (Lib.compact xs).length) 0).length = xs.length := by simp; omega
    refine ⟨_, rfl, ⟨⟨by simp, .inr ⟨g, c, _, rfl, hbg, hgp, by omega, hcm, ?_, ?_⟩⟩, ?_⟩, ⟨rfl, rfl, rfl, by simp, fun k hk hne => put_other w q g _ k (fun e => hne (by rw [e]; rfl))⟩⟩
    · simp [putCells, hcs]
    · rw [Nat.mul_one]
      have h1 := put_cells (Lib.compact xs ++ List.replicate (xs.length - (Lib.compact xs).length) 0).toArray cur (by simp; omega)
      have h2 := congrArg (List.take (Lib.compact xs).length) h1
      rw [List.take_take, Nat.min_eq_left (by simp)] at h2
      rw [h2]
      simp
    · intro z hz
      exact h.2 z (compact_mem_of xs z hz)
end Go.Proofs.Ytploonojacdflaa
