/- The walk of the law MeasureQuantileBrackets. Condition: the values lie in memory as they are read. -/
import Derived.Test.YtploonojacdflaaMeqQL
import Derived.Test.YtploonojacdflaaMeqCounts
namespace Go.Proofs.Ytploonojacdflaa.Quant
open Go.Shelf Go.RowKit Go.Maps Go.Proofs.Ytploonojacdflaa Go.Proofs.Ytploonojacdflaa.QMeasureQuantileBrackets
open Go.Proofs.YtploonojacdflaaW.PrintWords
theorem C_nil (W : World) : Kd.C k53 W none 0 [] := ⟨rfl, by decide, fun h => absurd h (by decide)⟩
set_option maxRecDepth 100000 in
set_option maxHeartbeats 4000000 in
/-- Where Of finds a fault. -/
theorem law4f (bits num den : Int) (A : Option Addr) (n c : Nat) (xs : List Int) (w : World) (hC : Kd.C (Kd.int .i64) w A n xs) (hfl : fault bits xs ≠ 0) :
    Calls Try.prog 4 #[.int .i64 bits, .slice A n c, .int .i64 num, .int .i64 den] w fun e w' => e = .returned (.bool true) ∧ Below w.heap.size w w' := by
  have hof := Of11f bits A n c xs w hC hfl
  generalize fault bits xs = f at hof hfl
  have hd : decide (f = 0) = false := decide_eq_false hfl
  have hq := fun W => quant_bad 1 0 num den 9 none 0 [] W (C_nil W) (Nat.le_refl _) check_none (by decide)
  simp only [List.length_nil] at hq
  go_enter Try.func4, Try.ntmps4
  go_wp2_with (first
    | (go_at_call 11; refine hof.mono ?_; rintro e w1 ⟨rfl, hB1⟩)
    | (go_at_call 12; refine (hq _).mono ?_; rintro e w2 ⟨rfl, hB2⟩)
    | (go_at_call 10; refine (counts10 _).mono ?_; rintro e w3 ⟨rfl, hB3⟩)
    | go_in)
  go_ret
  have hs1 := hB1.size
  have hb1 := hB1.alloc hs1 (.cells #[.int .i64 0, .slice none 0 0] 32)
  have hb2 := hb1.trans (Below.mono hB2 hb1.size)
  exact ⟨rfl, hb2.trans (Below.mono hB3 hb2.size)⟩
theorem fault_zero {bits : Int} {xs : List Int} (h : fault bits xs = 0) : ∃ b : Nat, bits = (b : Int) ∧ 2 ≤ b ∧ b ≤ 8 ∧ xs.length ≤ 20000 ∧ ∀ x ∈ xs, 0 ≤ x ∧ x < 1125899906842624 := by
  unfold fault at h
  split at h
  · cases h
  · split at h
    · cases h
    · split at h
      · cases h
      · rename_i h1 h2 h3
        refine ⟨bits.toNat, by omega, by omega, by omega, by omega, fun x hx => ?_⟩
        have h4 : bad x = false := by
          cases hb : bad x with
          | false => rfl
          | true => exact absurd (List.any_eq_true.2 ⟨x, hx, hb⟩) h3
        unfold bad at h4
        simp at h4
        omega
/-- What the law reads of a tally: of each list of good values. -/
theorem facts (b : Nat) (h2 : 2 ≤ b) (h8 : b ≤ 8) (xs : List Int) (hn : xs.length ≤ 20000) (hx : ∀ x ∈ xs, 0 ≤ x ∧ x < 1125899906842624) (l : List S53) (hT : IsTally (xs.map (bkt b)) l) :
    (∀ s ∈ l, 1 ≤ s.f1 ∧ s.f1 ≤ 20000) ∧ l.length ≤ 20000 ∧ measure_Check.f (2 * l.length + 2) (b : Int) l = some 0 ∧ measure_total.f (l.length + 1) (b : Int) l = some (xs.length : Int) ∧ (l.length = 0 ↔ xs.length = 0) ∧
    ∃ lo hi : Nat → Int, ∀ i : Nat, measure_limits.f (b : Int) (rd_T53 l (i : Int)).f0 = some (lo i, hi i) := by
  have P := par_of b h2 h8
  have hb := tally_pos hT (by rw [List.length_map]; exact hn)
  have hl := tally_len hT
  rw [List.length_map] at hl
  have hall := tally_all hT
  rw [List.length_map] at hall
  have hge := ahead_ge l (fun s hs => (hb s hs).1)
  have hb0 : ∀ s ∈ l, 0 ≤ s.f1 ∧ s.f1 ≤ 20000 := fun s hs => ⟨by have := hb s hs; omega, (hb s hs).2⟩
  have hsp : ∀ s ∈ l, ∃ a : Nat, s.f0 = (a : Int) ∧ a ≤ (50 - b) * 2 ^ (b - 1) + (2 * 2 ^ (b - 1) - 1) ∧ ∃ x y : Int, measure_limits.f (b : Int) (a : Int) = some (x, y) := fun s hs => by
    obtain ⟨v, hv, he⟩ := List.mem_map.1 ((hT.mem s).1 hs).1
    obtain ⟨m, rfl⟩ := Int.eq_ofNat_of_zero_le (hx v hv).1
    obtain ⟨_, a, ea, ha, x, y, e1, _⟩ := bkt_spec P m (by have := (hx _ hv).2; omega)
    exact ⟨a, by rw [← he, ea], ha, x, y, e1⟩
  refine ⟨hb, by omega, check_eq b h2 h8 l (by omega) hb hT.rising (fun s hs => by obtain ⟨a, h1, h2, _⟩ := hsp s hs; exact ⟨a, h1, h2⟩), ?_, ⟨fun h => ?_, fun h => by omega⟩, ?_⟩
  · rw [total_eq _ l (by omega) hb0, hall]
  · have : l = [] := List.length_eq_zero_iff.1 h
    subst this
    have : ahead ([] : List S53) = 0 := rfl
    omega
  · have hall' : ∀ i : Nat, ∃ q : Int × Int, measure_limits.f (b : Int) (rd_T53 l (i : Int)).f0 = some q := fun i => by
      by_cases h : i < l.length
      · have e : rd_T53 l (i : Int) = l[i] := by simp [rd_T53, List.getD, List.getElem?_eq_getElem h]
        obtain ⟨a, h1, _, x, y, h3⟩ := hsp _ (List.getElem_mem h)
        exact ⟨(x, y), by rw [e, h1]; exact h3⟩
      · have e : rd_T53 l (i : Int) = z53 := by simp [rd_T53, List.getD, List.getElem?_eq_none (Nat.le_of_not_lt h)]
        rw [e]
        have := P.p2
        exact ⟨_, limits_lo P 0 (by omega)⟩
    exact ⟨fun i => (Classical.choose (hall' i)).1, fun i => (Classical.choose (hall' i)).2, fun i => Classical.choose_spec (hall' i)⟩
set_option maxRecDepth 100000 in
set_option maxHeartbeats 4000000 in
/-- Where Quantile refuses. -/
theorem law4e (b : Nat) (h2 : 2 ≤ b) (h8 : b ≤ 8) (num den r : Int) (A : Option Addr) (c : Nat) (xs : List Int) (w : World) (hC : Kd.C (Kd.int .i64) w A xs.length xs) (hfl : fault (b : Int) xs = 0) (hn : xs.length ≤ 20000) (hx : ∀ x ∈ xs, 0 ≤ x ∧ x < 1125899906842624)
    (hr : r ≠ 0) (h0 : ∀ l : List S53, (l.length = 0 ↔ xs.length = 0) → ((decide (num < 0) = true ∧ r = 9) ∨ (decide (num < 0) = false ∧ decide (den < num) = true ∧ r = 9) ∨ (decide (num < 0) = false ∧ decide (den < num) = false ∧ decide (den < 1) = true ∧ r = 9) ∨
      (decide (num < 0) = false ∧ decide (den < num) = false ∧ decide (den < 1) = false ∧ decide (1000000 < den) = true ∧ r = 9) ∨ (decide (num < 0) = false ∧ decide (den < num) = false ∧ decide (den < 1) = false ∧ decide (1000000 < den) = false ∧ l.length = 0 ∧ r = 13))) :
    Calls Try.prog 4 #[.int .i64 (b : Int), .slice A xs.length c, .int .i64 num, .int .i64 den] w fun e w' => e = .returned (.bool true) ∧ Below w.heap.size w w' := by
  have P := par_of b h2 h8
  have hd : decide (r = 0) = false := decide_eq_false hr
  have hof := Of11 (b : Int) 1 (bkt b) A xs.length c xs w hC hfl (fun x hx' => by
    obtain ⟨m, rfl⟩ := Int.eq_ofNat_of_zero_le (hx x hx').1
    exact (bkt_spec P m (by have := (hx _ hx').2; omega)).1) (fun x hx' => by
    obtain ⟨m, rfl⟩ := Int.eq_ofNat_of_zero_le (hx x hx').1
    obtain ⟨_, a, ea, ha, _⟩ := bkt_spec P m (by have := (hx _ hx').2; omega)
    rw [ea]
    have := P.hJ
    have h128 := P.p128
    have : (50 - b) * 2 ^ (b - 1) ≤ 50 * 128 := Nat.mul_le_mul (by omega) h128
    exact WalkArith.wf_i64 (by omega))
  clear hd
  have hd : decide (r = 0) = false := decide_eq_false hr
  go_enter Try.func4, Try.ntmps4
  go_wp2_with (first
    | (go_at_call 11; refine hof.mono ?_; rintro e w1 ⟨v1, l, rfl, hV1, hB1, ht1⟩; obtain ⟨A1, c1, rfl⟩ := Kd.V_slice hV1; obtain ⟨hb_, hl_, hchk, htot, hiff, -⟩ := facts b h2 h8 xs hn hx l ht1; have hrd := Kd.V_reads' hV1; have hq := quant_err _ (b : Int) num den r A1 c1 l (w1.alloc (.cells #[.int .i64 (b : Int), .slice A1 l.length c1] 32)) (Kd.C_below hrd.2.2 ((Below.refl _ w1).alloc (Nat.le_refl _) _)) hrd.2.1 hchk (h0 l hiff))
    | (go_at_call 12; refine hq.mono ?_; rintro e w2 ⟨rfl, hB2⟩)
    | (go_at_call 10; refine (counts10 _).mono ?_; rintro e w3 ⟨rfl, hB3⟩)
    | go_in)
  go_ret
  have hs1 := hB1.size
  have hb1 := hB1.alloc hs1 (.cells #[.int .i64 (b : Int), .slice A1 l.length c1] 32)
  have hb2 := hb1.trans (Below.mono hB2 hb1.size)
  exact ⟨rfl, hb2.trans (Below.mono hB3 hb2.size)⟩
end Go.Proofs.Ytploonojacdflaa.Quant
