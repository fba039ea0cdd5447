/- The walk of the law MeasureMergeIsTogether, for all lists. Condition: the lists lie in memory as they are read; the table of powers of ten lies below. -/
import Derived.Test.YtlkameeaaplonaaDoorMrgL
namespace Go.Proofs.YtlkameeaaplonaaDoor
open Go.Shelf Go.RowKit Go.Maps Go.Proofs.YtlkameeaaplonaaDoor.QMeasureMergeIsTogether
open Go.Proofs.YtlkameeaaplonaaDoorW.PrintWords Go.Proofs.YtlkameeaaplonaaDoorW.PrintLast Go.Proofs.YtlkameeaaplonaaDoorW.PrintMore
/-- Of, for all lists. -/
theorem ofAny (bits : Int) (A : Option Addr) (c : Nat) (xs : List Int) (w : World) (hC : Kd.C (Kd.int .i64) w A xs.length xs) :
    Calls Tryd.prog 12 #[.int .i64 bits, .slice A xs.length c] w fun e w' => ∃ (h : Int) (P : Option Addr) (n d : Nat), e = .returned (.tuple #[.agg #[.int .i64 h, .slice P n d], .int .i64 (fault bits xs)]) ∧ Below w.heap.size w w' := by
  by_cases hf : fault bits xs = 0
  · obtain ⟨b, rfl, h2, h8, hx⟩ := fault_zero hf
    refine (ofFine b h2 h8 A c xs w hx hC).mono ?_
    rintro e w' ⟨v, r, rfl, hV, hB, _⟩
    obtain ⟨P, d, rfl⟩ := Kd.V_slice hV
    exact ⟨_, _, _, _, by rw [hf], hB⟩
  · refine (Of11f bits A xs.length c xs w hC hf).mono ?_
    rintro e w' ⟨rfl, hB⟩
    exact ⟨_, _, _, _, rfl, hB⟩
set_option maxRecDepth 100000 in
set_option maxHeartbeats 8000000 in
theorem law4e (bits f1 f2 f3 : Int) (A1 A2 A3 : Option Addr) (c1 c2 c3 : Nat) (xs ys zs : List Int) (w : World) (h1 : fault bits xs = f1) (h2 : fault bits ys = f2) (h3 : fault bits zs = f3)
    (hC1 : Kd.C (Kd.int .i64) w A1 xs.length xs) (hC2 : Kd.C (Kd.int .i64) w A2 ys.length ys) (hC3 : Kd.C (Kd.int .i64) w A3 zs.length zs)
    (h0 : ¬ f1 = 0 ∨ (f1 = 0 ∧ ¬ f2 = 0) ∨ (f1 = 0 ∧ f2 = 0 ∧ ¬ f3 = 0) ∨ (f1 = 0 ∧ f2 = 0 ∧ f3 = 0 ∧ xs.length ≤ 20000 ∧ ys.length ≤ 20000 ∧ zs.length ≤ 20000 ∧ decide (20000 < (xs.length : Int) + (ys.length : Int) + (zs.length : Int)) = true)) :
    Calls Tryd.prog 4 #[.int .i64 bits, .slice A1 xs.length c1, .slice A2 ys.length c2, .slice A3 zs.length c3] w fun e w' => e = .returned (.bool true) ∧ Below w.heap.size w w' := by
  have o1 := ofAny bits A1 c1 xs w hC1
  have o2 := fun W (h : Below w.heap.size w W) => ofAny bits A2 c2 ys W (Kd.C_below hC2 h)
  have o3 := fun W (h : Below w.heap.size w W) => ofAny bits A3 c3 zs W (Kd.C_below hC3 h)
  rw [h1] at o1
  rw [h2] at o2
  rw [h3] at o3
  clear h1 h2 h3
  rcases h0 with d1 | ⟨rfl, d1⟩ | ⟨rfl, rfl, d1⟩ | ⟨rfl, rfl, rfl, hl1, hl2, hl3, d1⟩
  all_goals
    (try have dd := decide_eq_false d1)
    go_enter Tryd.func4, Tryd.ntmps4
    go_wp2_with (first
      | (exfalso; contradiction)
      | (go_at_call 12; with_reducible refine (o3 _ hU2).mono ?_; rintro e w3 ⟨h3, P3, n3, d3, rfl, hB3⟩; have hU3 := up hU2 hB3 (.cells #[.int .i64 h3, .slice P3 n3 d3] 25))
      | (go_at_call 12; with_reducible refine (o2 _ hU1).mono ?_; rintro e w2 ⟨h2, P2, n2, d2, rfl, hB2⟩; have hU2 := up hU1 hB2 (.cells #[.int .i64 h2, .slice P2 n2 d2] 25))
      | (go_at_call 12; with_reducible refine o1.mono ?_; rintro e w1 ⟨h1, P1, n1, d1', rfl, hB1⟩; have hU1 := hB1.alloc hB1.size (.cells #[.int .i64 h1, .slice P1 n1 d1'] 25))
      | (go_at_call 16; refine (counts10 _).mono ?_; rintro e w4 ⟨rfl, hB4⟩)
      | go_in)
    go_ret
    exact ⟨rfl, hU3.trans (Below.mono hB4 hU3.size)⟩
/-- The law. -/
theorem law4 (bits : Int) (A1 A2 A3 : Option Addr) (c1 c2 c3 : Nat) (xs ys zs : List Int) (w : World)
    (hC1 : Kd.C (Kd.int .i64) w A1 xs.length xs) (hC2 : Kd.C (Kd.int .i64) w A2 ys.length ys) (hC3 : Kd.C (Kd.int .i64) w A3 zs.length zs)
    (htab : Lib.TabBelow Tryd.prog w.heap.size w "internal/strconv.uint64pow10" .u64 Lib.pow10Tab) :
    Calls Tryd.prog 4 #[.int .i64 bits, .slice A1 xs.length c1, .slice A2 ys.length c2, .slice A3 zs.length c3] w fun e w' => e = .returned (.bool true) ∧ Below w.heap.size w w' := by
  by_cases h1 : fault bits xs = 0
  · by_cases h2 : fault bits ys = 0
    · by_cases h3 : fault bits zs = 0
      · obtain ⟨b, rfl, hb2, hb8, hx⟩ := fault_zero h1
        obtain ⟨b', e', _, _, hy⟩ := fault_zero h2
        obtain ⟨b'', e'', _, _, hz⟩ := fault_zero h3
        by_cases hn : xs.length + ys.length + zs.length ≤ 20000
        · exact law4g b hb2 hb8 A1 A2 A3 c1 c2 c3 xs ys zs w hx hy hz hn hC1 hC2 hC3 htab
        · exact law4e _ _ _ _ A1 A2 A3 c1 c2 c3 xs ys zs w h1 h2 h3 hC1 hC2 hC3 (.inr (.inr (.inr ⟨rfl, rfl, rfl, hx.1, hy.1, hz.1, decide_eq_true (by omega)⟩)))
      · exact law4e _ _ _ _ A1 A2 A3 c1 c2 c3 xs ys zs w h1 h2 rfl hC1 hC2 hC3 (.inr (.inr (.inl ⟨rfl, rfl, h3⟩)))
    · exact law4e _ _ _ _ A1 A2 A3 c1 c2 c3 xs ys zs w h1 rfl rfl hC1 hC2 hC3 (.inr (.inl ⟨rfl, h2⟩))
  · exact law4e _ _ _ _ A1 A2 A3 c1 c2 c3 xs ys zs w rfl rfl rfl hC1 hC2 hC3 (.inl h1)
end Go.Proofs.YtlkameeaaplonaaDoor
