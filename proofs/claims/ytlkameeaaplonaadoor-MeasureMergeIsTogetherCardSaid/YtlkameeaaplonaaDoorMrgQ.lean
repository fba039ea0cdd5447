/- Of and Merge of lists of good values, for the law. -/
import Derived.Test.YtlkameeaaplonaaDoorMrgC
import Derived.Test.YtlkameeaaplonaaDoorMrgP
import Derived.Test.YtlkameeaaplonaaDoorInkB
namespace Go.Proofs.YtlkameeaaplonaaDoor
open Go.Shelf Go.RowKit Go.Maps Go.Proofs.YtlkameeaaplonaaDoor.QMeasureMergeIsTogether
open Go.Proofs.YtlkameeaaplonaaDoorW.PrintWords Go.Proofs.YtlkameeaaplonaaDoorW.PrintLast Go.Proofs.YtlkameeaaplonaaDoorW.PrintMore
/-- Good values. -/
def Fine (xs : List Int) : Prop := xs.length ≤ 20000 ∧ ∀ x ∈ xs, 0 ≤ x ∧ x < 1125899906842624
theorem fault_zero {bits : Int} {xs : List Int} (h : fault bits xs = 0) : ∃ b : Nat, bits = (b : Int) ∧ 2 ≤ b ∧ b ≤ 8 ∧ Fine xs := by
  unfold fault at h
  split at h
  · cases h
  · split at h
    · cases h
    · split at h
      · cases h
      · rename_i h1 h2 h3
        refine ⟨bits.toNat, by omega, by omega, by omega, by omega, fun x hx => ?_⟩
        have h4 : bad x = false := by
          cases hb : bad x with
          | false => rfl
          | true => exact absurd (List.any_eq_true.2 ⟨x, hx, hb⟩) h3
        unfold bad at h4
        simp at h4
        omega
theorem fault_fine (b : Nat) (h2 : 2 ≤ b) (h8 : b ≤ 8) {xs : List Int} (h : Fine xs) : fault (b : Int) xs = 0 := by
  unfold fault
  rw [if_neg (by omega), if_neg (by have := h.1; omega), if_neg]
  intro h3
  obtain ⟨x, hx, hb⟩ := List.any_eq_true.1 h3
  have := h.2 x hx
  unfold bad at hb
  simp at hb
  omega
theorem check_more (b : Int) (l : List S44) : ∀ (d k : Nat), measure_Check.f k b l = some 0 → measure_Check.f (k + d) b l = some 0
  | 0, _, h => h
  | d + 1, k, h => measure_Check.mono b l (k + d) _ (check_more b l d k h)
/-- What is known of the tally of good values. -/
theorem tally_facts (b : Nat) (h2 : 2 ≤ b) (h8 : b ≤ 8) (xs : List Int) (hx : Fine xs) (l : List S44) (hT : IsTally (xs.map (bkt b)) l) :
    l.length ≤ 20000 ∧ (∀ s ∈ l, in64 s.f0 ∧ in64 s.f1) ∧ (∀ s ∈ l, (Lit.int .i64 s.f0).wf = true ∧ (Lit.int .i64 s.f1).wf = true) ∧ measure_Check.f 40002 (b : Int) l = some 0 ∧ measure_total.f (l.length + 1) (b : Int) l = some (((xs.map (bkt b)).length : Nat) : Int) := by
  have P := par_of b h2 h8
  have hb := tally_pos hT (by rw [List.length_map]; exact hx.1)
  have hl := tally_len hT
  rw [List.length_map] at hl
  have hn := hx.1
  have hall := tally_all hT
  have hb0 : ∀ s ∈ l, 0 ≤ s.f1 ∧ s.f1 ≤ 20000 := fun s hs => ⟨by have := hb s hs; omega, (hb s hs).2⟩
  have hsp : ∀ s ∈ l, ∃ a : Nat, s.f0 = (a : Int) ∧ a ≤ (50 - b) * 2 ^ (b - 1) + (2 * 2 ^ (b - 1) - 1) := fun s hs => by
    obtain ⟨v, hv, he⟩ := List.mem_map.1 ((hT.mem s).1 hs).1
    obtain ⟨m, rfl⟩ := Int.eq_ofNat_of_zero_le (hx.2 v hv).1
    obtain ⟨_, a, ea, ha⟩ := bkt_spec P m (by have := (hx.2 _ hv).2; omega)
    exact ⟨a, by rw [← he, ea], ha⟩
  have h128 := P.p128
  have hm : (50 - b) * 2 ^ (b - 1) ≤ 50 * 128 := Nat.mul_le_mul (by omega) h128
  have hr : ∀ s ∈ l, 0 ≤ s.f0 ∧ s.f0 ≤ 10000 := fun s hs => by
    obtain ⟨a, h1, h3⟩ := hsp s hs
    omega
  refine ⟨by omega, fun s hs => ?_, fun s hs => ?_, ?_, ?_⟩
  · have := hr s hs
    have := hb0 s hs
    exact ⟨⟨by omega, by omega⟩, ⟨by omega, by omega⟩⟩
  · have := hr s hs
    have := hb0 s hs
    exact ⟨WalkArith.wf_i64 (by omega), WalkArith.wf_i64 (by omega)⟩
  · have h := check_eq b h2 h8 l (by omega) hb hT.rising hsp
    have := check_more (b : Int) l (40002 - (2 * l.length + 2)) _ h
    rwa [show 2 * l.length + 2 + (40002 - (2 * l.length + 2)) = 40002 from by omega] at this
  · rw [total_eq _ l (by omega) hb0, hall]
/-- Of, for good values. -/
theorem ofFine (b : Nat) (h2 : 2 ≤ b) (h8 : b ≤ 8) (A : Option Addr) (c : Nat) (xs : List Int) (w : World) (hx : Fine xs) (hC : Kd.C (Kd.int .i64) w A xs.length xs) :
    Calls Tryd.prog 12 #[.int .i64 (b : Int), .slice A xs.length c] w fun e w' => ∃ v r, e = .returned (.tuple #[.agg #[.int .i64 (b : Int), v], .int .i64 0]) ∧ Kd.V k44 44 w' w.heap.size (fun k => w.heap.size ≤ k) v r ∧ Below w.heap.size w w' ∧ IsTally (xs.map (bkt b)) r := by
  have P := par_of b h2 h8
  refine Of11 (b : Int) 1 (bkt b) A xs.length c xs w hC (fault_fine b h2 h8 hx) (fun x hx' => ?_) (fun x hx' => ?_)
  · obtain ⟨m, rfl⟩ := Int.eq_ofNat_of_zero_le (hx.2 x hx').1
    exact (bkt_spec P m (by have := (hx.2 _ hx').2; omega)).1
  · obtain ⟨m, rfl⟩ := Int.eq_ofNat_of_zero_le (hx.2 x hx').1
    obtain ⟨_, a, ea, ha⟩ := bkt_spec P m (by have := (hx.2 _ hx').2; omega)
    rw [ea]
    have h128 := P.p128
    have : (50 - b) * 2 ^ (b - 1) ≤ 50 * 128 := Nat.mul_le_mul (by omega) h128
    exact WalkArith.wf_i64 (by omega)
/-- Merge, of the tallies of good values. -/
theorem mergeFine (b : Nat) (h2 : 2 ≤ b) (h8 : b ≤ 8) (A A2 : Option Addr) (c c2 : Nat) (l l2 : List S44) (xs ys : List Int) (w : World) (hx : Fine xs) (hy : Fine ys) (hC : Kd.C k44 w A l.length l) (hc : l.length ≤ c) (hC2 : Kd.C k44 w A2 l2.length l2) (hc2 : l2.length ≤ c2)
    (hT : IsTally (xs.map (bkt b)) l) (hT2 : IsTally (ys.map (bkt b)) l2) :
    Calls Tryd.prog 17 #[.agg #[.int .i64 (b : Int), .slice A l.length c], .agg #[.int .i64 (b : Int), .slice A2 l2.length c2]] w fun e w' => ∃ v r, e = .returned (.tuple #[.agg #[.int .i64 (b : Int), v], .int .i64 0]) ∧
      Kd.V k44 44 w' w.heap.size (fun k => w.heap.size ≤ k) v r ∧ Below w.heap.size w w' ∧ IsTally ((xs ++ ys).map (bkt b)) r := by
  obtain ⟨f1, f2, f3, f4, f5⟩ := tally_facts b h2 h8 xs hx l hT
  obtain ⟨g1, g2, g3, g4, g5⟩ := tally_facts b h2 h8 ys hy l2 hT2
  have hck : measure_checkBoth.f 40002 (b : Int) l (b : Int) l2 = some 0 := by
    unfold measure_checkBoth.f
    rw [f4, Option.bind_some, if_pos rfl, g4, Option.bind_some, if_pos rfl, if_pos rfl]
  have h := merge17 (b : Int) (b : Int) A A2 c c2 40002 _ _ l l2 _ _ w hC hc hC2 hc2 hT hT2 f1 g1 (by rw [List.length_map, List.length_map]; have := hx.1; have := hy.1; omega) f3 g3 hck f5 g5
  rw [List.map_append]
  exact h
end Go.Proofs.YtlkameeaaplonaaDoor
