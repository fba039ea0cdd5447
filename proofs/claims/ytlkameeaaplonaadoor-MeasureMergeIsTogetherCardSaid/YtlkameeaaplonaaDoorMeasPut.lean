/- A list that stays sorted: put lays a number at the place that the search finds. Conditions: the list is a row of the call's own, short. -/
import Derived.Test.YtlkameeaaplonaaDoorMeasIns
import Derived.Test.YtlkameeaaplonaaDoorQMeasureMergeIsTogetherx2
namespace Go.Proofs.YtlkameeaaplonaaDoor
open Go.Shelf Go.RowKit Go.Proofs.YtlkameeaaplonaaDoor.QMeasureMergeIsTogether
open Go.Proofs.YtlkameeaaplonaaDoorW.PrintWords
theorem C_own {w : World} {B n c : Nat} {A : Option Addr} {xs : List Int} (h : w.ownsInts B 3 .i64 (.slice A n c) xs) : xs.length = n ∧ n ≤ c ∧ Kd.C (Kd.int .i64) w A n xs := by
  rcases h.1.2 with ⟨e, h0⟩ | ⟨g, cap, cur, e, hbg, hg, hnc, hcm, hcs, htake⟩
  · injection e with e1 e2 e3
    subst e1 e2 e3
    exact ⟨h0, Nat.le_refl _, h0, by omega, fun h => absurd h (by omega)⟩
  · injection e with e1 e2 e3
    subst e1 e2 e3
    have hcell := h.1.cells (g := g) rfl
    have hmx : maxLen ≤ 9223372036854775807 := by decide
    refine ⟨rfl, hnc, rfl, by omega, fun _ => ⟨_, rfl, fun j p hp => ⟨[.int .i64 p], rfl, rfl, fun i u hu => ?_⟩⟩⟩
    match i, hu with
    | 0, hu =>
      simp at hu
      subst hu
      have := hcell j (.int .i64 p) (by rw [List.getElem?_map, hp]; rfl)
      simpa [Kd.int, Kd.scalar] using this

theorem put43 (k B g : Nat) (v : Value) (xs : List Int) (i : Nat) (b : Bool) (x : Int) (w : World) (hi : i ≤ xs.length) (hx : (Lit.int .i64 x).wf = true) (hg : w.heap[g]? = some (.cells #[v] 71 (0, 0)))
    (hown : w.ownsInts B 3 .i64 v xs) (hB : B ≤ w.heap.size) (hs : xs.length + 1 ≤ 17592186044416) (hf : slices_BinarySearch_int_int.f k xs x = some ((i : Int), b)) :
    Calls Tryd.prog 53 #[.pointer (some ⟨g, 0, none⟩), .int .i64 x] w fun e w' => e = .returned (.tuple #[]) ∧ ∃ v' w1, w.grownBy w1 v.ownBlock ∧ w1.grownBy w' (some g) ∧ w'.heap[g]? = some (.cells #[v'] 71 (0, 0)) ∧
      w'.ownsInts B 3 .i64 v' (put xs i x) := by
  have hsl : ∃ A n c, v = .slice A n c := by
    rcases hown.1.2 with ⟨e, _⟩ | ⟨gg, cap, cur, e, _⟩
    · exact ⟨_, _, _, e⟩
    · exact ⟨_, _, _, e⟩
  have hvg : v.ownBlock ≠ some g := by
    intro e
    rcases hown.1.2 with ⟨rfl, _⟩ | ⟨gg, cap, cur, rfl, _, h2, _⟩
    · simp [Value.ownBlock] at e
    · simp [Value.ownBlock] at e
      subst e
      rw [hg] at h2
      injection h2 with h2
      injection h2 with _ h2
      exact absurd h2 (by decide)
  have hgl : g < w.heap.size := (Array.getElem?_eq_some_iff.1 hg).1
  obtain ⟨A, n, c, rfl⟩ := hsl
  obtain ⟨hln, hnc, hC⟩ := C_own hown
  subst hln
  have hc0 : w.cell? ⟨g, 0, none⟩ = some (.slice A xs.length c) := by simp [World.cell?, hg]
  have hf0 : w.frozen? ⟨g, 0, none⟩ = false := by simp [World.frozen?, hg]
  go_enter Tryd.func53, Tryd.ntmps53
  go_wp2_with (first
    | (go_at_call 59; refine (slices_BinarySearch_int_int.calls k A c xs x i b w hC hnc hf).mono ?_; rintro e w' ⟨rfl, ⟨nd, rfl⟩⟩)
    | (go_at_call 60; have hgw : ((w.drewN nd).alloc (.cells #[.int .i64 x] 3)).heap[g]? = some (.cells #[.slice A xs.length c] 71 (0, 0)) := (Below.heap_alloc (w.drewN nd) _ g (by exact hgl)).trans hg; refine (ins B w.heap.size (.slice A xs.length c) xs i x _ hi hx (World.ownsInts.alloc (show (w.drewN nd).ownsInts B 3 .i64 _ xs from hown) _) (heap_alloc_new (w.drewN nd) _) (fun e => by have := (hown.1.lt _ e).2; omega) (by simp; omega) hs).mono ?_; rintro e w2 ⟨v2, rfl, hown2, hgr2, hloc2⟩; have hg2 : w2.heap[g]? = some (.cells #[.slice A xs.length c] 71 (0, 0)) := (hgr2.block g (by simp; omega) (fun e => hvg e.symm)).trans hgw; have hc2 : w2.cell? ⟨g, 0, none⟩ = some (.slice A xs.length c) := (by simp [World.cell?, hg2]); have hf2 : w2.frozen? ⟨g, 0, none⟩ = false := (by simp [World.frozen?, hg2]); obtain ⟨A2, n2, c2, rfl⟩ : ∃ A n c, v2 = .slice A n c := (by rcases hown2.1.2 with ⟨e, _⟩ | ⟨gg, cap, cur, e, _⟩; exact ⟨_, _, _, e⟩; exact ⟨_, _, _, e⟩))
    | go_in)
  go_end0
  have hq : w.grownBy w2 (Value.slice A xs.length c).ownBlock := by
    have q1 : w.grownBy ((w.drewN nd).alloc (.cells #[.int .i64 x] 3)) (Value.slice A xs.length c).ownBlock := ⟨rfl, rfl, rfl, by simp, fun k hk _ => Below.heap_alloc (w.drewN nd) _ k hk⟩
    exact q1.trans hgr2
  have hv2 : (Value.slice A2 n2 c2).ownBlock ≠ some g := by
    intro e
    rcases hown2.1.2 with ⟨e2, _⟩ | ⟨gg, cap, cur, e2, _, h2, _⟩
    · rw [e2] at e
      simp [Value.ownBlock] at e
    · rw [e2] at e
      simp [Value.ownBlock] at e
      subst e
      rw [hg2] at h2
      injection h2 with h2
      injection h2 with _ h2
      exact absurd h2 (by decide)
  refine ⟨rfl, .slice A2 n2 c2, w2, hq, ⟨rfl, rfl, rfl, by simp [World.setCell], fun k _ hne => heap_setCell_other w2 ⟨g, 0, none⟩ k _ (fun e => hne (by rw [e]))⟩, one_setCell hg2, ?_⟩
  exact hown2.kept (row := some g) ⟨rfl, rfl, rfl, by simp [World.setCell], fun k _ hne => heap_setCell_other w2 ⟨g, 0, none⟩ k _ (fun e => hne (by rw [e]))⟩ (.inr hv2)
end Go.Proofs.YtlkameeaaplonaaDoor
