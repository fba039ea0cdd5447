/- Lean functions that answer as Go functions of this seat do, each with its proof. Condition: the Lean function answers 'some'. -/
import Derived.Test.YtaoekkikpceccaaLx0
import Derived.Test.YtaoekkikpceccaaLx5
import Derived.Test.YtaoekkikpceccaaLx6
import Derived.Test.YtaoekkikpceccaaLx8
namespace Go.Proofs.Ytaoekkikpceccaa.QLoadAdmitKeepsTheLimit
open Go.RowKit Go.Proofs.YtaoekkikpceccaaW.PrintWords Go.Proofs.YtaoekkikpceccaaW.PrintLast Go.Proofs.YtaoekkikpceccaaW.PrintMore
attribute [local go_sem] max2_int min2_int max_two min_two
set_option linter.unusedVariables false
set_option maxHeartbeats 8000000
set_option maxRecDepth 100000
set_option linter.unusedSimpArgs false
def load_line_area.f (k : Nat) (l0 : List (S51)) (a1 : Int) (a2 : Int) : Option (List Int × List Int) := if 0 < (l0.length : Int) then (if 0 ≤ a1 then (if a1 < (((rd_T51 l0 0).f0).length : Int) then (if a1 < (((rd_T51 l0 0).f2).length : Int) then ((nat_Of.f ((rd_T40 ((rd_T51 l0 0).f0) a1).f0)).bind fun t229 => ((nat_Mul.f k (rd_L3 ((rd_T51 l0 0).f2) a1) t229).bind fun t232 => ((load_product.f k (([2, (rd_T40 ((rd_T51 l0 0).f0) a1).f0, (rd_T40 ((rd_T51 l0 0).f0) a1).f1, a2] : List Int))).bind fun t238 => ((nat_Add.f k t232 t238).bind fun t241 => (if ((rd_T40 ((rd_T51 l0 0).f0) a1).f2) ≥ ((rd_T40 ((rd_T51 l0 0).f0) a1).f1) then ((load_product.f k (([wrap64 (((rd_T40 ((rd_T51 l0 0).f0) a1).f2) - ((rd_T40 ((rd_T51 l0 0).f0) a1).f1)), a2, a2] : List Int))).bind fun t247 => ((nat_Add.f k t241 t247).bind fun t250 => ((load_product.f k (([2, (rd_T40 ((rd_T51 l0 0).f0) a1).f0, 1000000000] : List Int))).bind fun t256 => (some (t250, t256))))) else ((load_product.f k (([wrap64 (((rd_T40 ((rd_T51 l0 0).f0) a1).f1) - ((rd_T40 ((rd_T51 l0 0).f0) a1).f2)), a2, a2] : List Int))).bind fun t262 => ((nat_Sub.f k t241 t262).bind fun t265 => ((load_product.f k (([2, (rd_T40 ((rd_T51 l0 0).f0) a1).f0, 1000000000] : List Int))).bind fun t271 => (some (t265, t271)))))))))) else (none)) else (none)) else (none)) else (none)
theorem load_line_area.mono : ∀ a0 a1 a2 k, LeO (load_line_area.f k a0 a1 a2) (load_line_area.f (k + 1) a0 a1 a2) := by
 intro a0 a1 a2 k
 unfold load_line_area.f
 repeat' first
   | (with_reducible exact load_product.mono _ _)
   | (with_reducible exact nat_Add.mono _ _ _)
   | (with_reducible exact nat_Mul.mono _ _ _)
   | (with_reducible exact nat_Sub.mono _ _ _)
   | (with_reducible exact LeO.refl _)
   | (with_reducible exact LeO.none _)
   | (with_reducible refine LeO.ite ?_ ?_)
   | (with_reducible refine LeO.bind ?_ (fun _ => ?_))
def load_line_area.T2 : Bool × List (List Nat × List Nat) := (true, [([], []), ([0], [0]), ([1], [1]), ([2], [2]), ([], []), ([3, 4], [3, 4]), ([5], [5]), ([], []), ([7], [7]), ([8], [8]), ([6, 9, 9], [6, 9]), ([], []), ([11], [11]), ([], []), ([13], [13]), ([], []), ([12, 14, 15], [12, 14, 15]), ([16, 10], [16]), ([10, 17, 17], [10, 17]), ([18, 18, 0, 1, 2, 3, 4, 5, 6, 7, 8, 9, 10, 11, 12, 13, 14, 15, 16, 17, 18], [18])])
def load_line_area.B2 : List Nat := [0, 1, 3, 7, 0, 31, 63, 0, 128, 384, 1023, 0, 2048, 0, 8192, 0, 63488, 131071, 262143, 524287]
theorem load_line_area.tab2 : rtab .any (opsOf Try.f32 2) = load_line_area.T2 := by kernel_rfl
theorem load_line_area.bits2 : waitsOk load_line_area.T2.2 load_line_area.B2 = true := by kernel_rfl
theorem load_line_area.calls (k : Nat) (A0 : Option Addr) (c0 : Nat) (l0 : List (S51)) (a1 : Int) (a2 : Int) (r1 : List Int) (r2 : List Int) (w : World) (hr0 : Kd.C k51 w A0 l0.length l0) (hc0 : l0.length ≤ c0) (h : load_line_area.f k l0 a1 a2 = some (r1, r2)) :
  Calls Try.prog 32 #[.pointer A0, .int .i64 a1, .int .i64 a2] w fun e w' => ∃ v0_ v1_ : Value, e = .returned (.agg #[v0_, v1_]) ∧ Kd.R (Kd.int .u64) 65 w' w.heap.size (fun k_ => some k_ ≠ (v1_ : Value).ownBlock) v0_ r1 ∧ Kd.R (Kd.int .u64) 65 w' w.heap.size (fun k_ => some k_ ≠ (v0_ : Value).ownBlock) v1_ r2 ∧ Below w.heap.size w w' := by
 have hu57 := Try.underlying57
 have hu40 := Try.underlying40
 have HR0 := aM hr0
 have HC0 := aM hc0
 clear hr0 hc0
 have HB := aM (Below.refl w.heap.size w)
 have H : (if 0 < (l0.length : Int) then (if 0 ≤ a1 then (if a1 < (((rd_T51 l0 0).f0).length : Int) then (if a1 < (((rd_T51 l0 0).f2).length : Int) then ((nat_Of.f ((rd_T40 ((rd_T51 l0 0).f0) a1).f0)).bind fun t229 => ((nat_Mul.f k (rd_L3 ((rd_T51 l0 0).f2) a1) t229).bind fun t232 => ((load_product.f k (([2, (rd_T40 ((rd_T51 l0 0).f0) a1).f0, (rd_T40 ((rd_T51 l0 0).f0) a1).f1, a2] : List Int))).bind fun t238 => ((nat_Add.f k t232 t238).bind fun t241 => (if ((rd_T40 ((rd_T51 l0 0).f0) a1).f2) ≥ ((rd_T40 ((rd_T51 l0 0).f0) a1).f1) then ((load_product.f k (([wrap64 (((rd_T40 ((rd_T51 l0 0).f0) a1).f2) - ((rd_T40 ((rd_T51 l0 0).f0) a1).f1)), a2, a2] : List Int))).bind fun t247 => ((nat_Add.f k t241 t247).bind fun t250 => ((load_product.f k (([2, (rd_T40 ((rd_T51 l0 0).f0) a1).f0, 1000000000] : List Int))).bind fun t256 => (some (t250, t256))))) else ((load_product.f k (([wrap64 (((rd_T40 ((rd_T51 l0 0).f0) a1).f1) - ((rd_T40 ((rd_T51 l0 0).f0) a1).f2)), a2, a2] : List Int))).bind fun t262 => ((nat_Sub.f k t241 t262).bind fun t265 => ((load_product.f k (([2, (rd_T40 ((rd_T51 l0 0).f0) a1).f0, 1000000000] : List Int))).bind fun t271 => (some (t265, t271)))))))))) else (none)) else (none)) else (none)) else (none)) = some (r1, r2) := h
 clear h
 by_cases c4 : 0 < (l0.length : Int)
 rotate_left
 ·rw [if_neg c4] at H; cases H
 rw [if_pos c4] at H
 have c4b0 : decide (0 < (l0.length : Int)) = true := dT c4
 have c4b1 : decide (0 < l0.length) = true := dT (by omega)
 clear c4
 by_cases c5 : 0 ≤ a1
 rotate_left
 ·rw [if_neg c5] at H; cases H
 rw [if_pos c5] at H
 have c5b0 : decide (0 ≤ a1) = true := dT c5
 clear c5
 by_cases c6 : a1 < (((rd_T51 l0 0).f0).length : Int)
 rotate_left
 ·rw [if_neg c6] at H; cases H
 rw [if_pos c6] at H
 have c6b0 : decide (a1 < (((rd_T51 l0 0).f0).length : Int)) = true := dT c6
 clear c6
 by_cases c7 : a1 < (((rd_T51 l0 0).f2).length : Int)
 rotate_left
 ·rw [if_neg c7] at H; cases H
 rw [if_pos c7] at H
 have c7b0 : decide (a1 < (((rd_T51 l0 0).f2).length : Int)) = true := dT c7
 clear c7
 replace H := oB H
 obtain ⟨t229, A80, H⟩ := H
 replace H : ((nat_Mul.f k (rd_L3 ((rd_T51 l0 0).f2) a1) t229).bind fun t232 => ((load_product.f k (([2, (rd_T40 ((rd_T51 l0 0).f0) a1).f0, (rd_T40 ((rd_T51 l0 0).f0) a1).f1, a2] : List Int))).bind fun t238 => ((nat_Add.f k t232 t238).bind fun t241 => (if ((rd_T40 ((rd_T51 l0 0).f0) a1).f2) ≥ ((rd_T40 ((rd_T51 l0 0).f0) a1).f1) then ((load_product.f k (([wrap64 (((rd_T40 ((rd_T51 l0 0).f0) a1).f2) - ((rd_T40 ((rd_T51 l0 0).f0) a1).f1)), a2, a2] : List Int))).bind fun t247 => ((nat_Add.f k t241 t247).bind fun t250 => ((load_product.f k (([2, (rd_T40 ((rd_T51 l0 0).f0) a1).f0, 1000000000] : List Int))).bind fun t256 => (some (t250, t256))))) else ((load_product.f k (([wrap64 (((rd_T40 ((rd_T51 l0 0).f0) a1).f1) - ((rd_T40 ((rd_T51 l0 0).f0) a1).f2)), a2, a2] : List Int))).bind fun t262 => ((nat_Sub.f k t241 t262).bind fun t265 => ((load_product.f k (([2, (rd_T40 ((rd_T51 l0 0).f0) a1).f0, 1000000000] : List Int))).bind fun t271 => (some (t265, t271))))))))) = some (r1, r2) := H
 have A8 := aM A80; clear A80
 replace H := oB H
 obtain ⟨t232, A90, H⟩ := H
 replace H : ((load_product.f k (([2, (rd_T40 ((rd_T51 l0 0).f0) a1).f0, (rd_T40 ((rd_T51 l0 0).f0) a1).f1, a2] : List Int))).bind fun t238 => ((nat_Add.f k t232 t238).bind fun t241 => (if ((rd_T40 ((rd_T51 l0 0).f0) a1).f2) ≥ ((rd_T40 ((rd_T51 l0 0).f0) a1).f1) then ((load_product.f k (([wrap64 (((rd_T40 ((rd_T51 l0 0).f0) a1).f2) - ((rd_T40 ((rd_T51 l0 0).f0) a1).f1)), a2, a2] : List Int))).bind fun t247 => ((nat_Add.f k t241 t247).bind fun t250 => ((load_product.f k (([2, (rd_T40 ((rd_T51 l0 0).f0) a1).f0, 1000000000] : List Int))).bind fun t256 => (some (t250, t256))))) else ((load_product.f k (([wrap64 (((rd_T40 ((rd_T51 l0 0).f0) a1).f1) - ((rd_T40 ((rd_T51 l0 0).f0) a1).f2)), a2, a2] : List Int))).bind fun t262 => ((nat_Sub.f k t241 t262).bind fun t265 => ((load_product.f k (([2, (rd_T40 ((rd_T51 l0 0).f0) a1).f0, 1000000000] : List Int))).bind fun t271 => (some (t265, t271)))))))) = some (r1, r2) := H
 have A9 := aM A90; clear A90
 obtain ⟨y235, hy235⟩ : ∃ y_ : List Int, y_ = (([2, (rd_T40 ((rd_T51 l0 0).f0) a1).f0, (rd_T40 ((rd_T51 l0 0).f0) a1).f1, a2] : List Int)) := ⟨_, rfl⟩
 replace H : ((load_product.f k y235).bind fun t238 => ((nat_Add.f k t232 t238).bind fun t241 => (if ((rd_T40 ((rd_T51 l0 0).f0) a1).f2) ≥ ((rd_T40 ((rd_T51 l0 0).f0) a1).f1) then ((load_product.f k (([wrap64 (((rd_T40 ((rd_T51 l0 0).f0) a1).f2) - ((rd_T40 ((rd_T51 l0 0).f0) a1).f1)), a2, a2] : List Int))).bind fun t247 => ((nat_Add.f k t241 t247).bind fun t250 => ((load_product.f k (([2, (rd_T40 ((rd_T51 l0 0).f0) a1).f0, 1000000000] : List Int))).bind fun t256 => (some (t250, t256))))) else ((load_product.f k (([wrap64 (((rd_T40 ((rd_T51 l0 0).f0) a1).f1) - ((rd_T40 ((rd_T51 l0 0).f0) a1).f2)), a2, a2] : List Int))).bind fun t262 => ((nat_Sub.f k t241 t262).bind fun t265 => ((load_product.f k (([2, (rd_T40 ((rd_T51 l0 0).f0) a1).f0, 1000000000] : List Int))).bind fun t271 => (some (t265, t271)))))))) = some (r1, r2) := by first | (rw [hy235]; exact H) | exact H
 have Ny235 := aM hy235
 clear hy235
 replace H := oB H
 obtain ⟨t238, A100, H⟩ := H
 replace H : ((nat_Add.f k t232 t238).bind fun t241 => (if ((rd_T40 ((rd_T51 l0 0).f0) a1).f2) ≥ ((rd_T40 ((rd_T51 l0 0).f0) a1).f1) then ((load_product.f k (([wrap64 (((rd_T40 ((rd_T51 l0 0).f0) a1).f2) - ((rd_T40 ((rd_T51 l0 0).f0) a1).f1)), a2, a2] : List Int))).bind fun t247 => ((nat_Add.f k t241 t247).bind fun t250 => ((load_product.f k (([2, (rd_T40 ((rd_T51 l0 0).f0) a1).f0, 1000000000] : List Int))).bind fun t256 => (some (t250, t256))))) else ((load_product.f k (([wrap64 (((rd_T40 ((rd_T51 l0 0).f0) a1).f1) - ((rd_T40 ((rd_T51 l0 0).f0) a1).f2)), a2, a2] : List Int))).bind fun t262 => ((nat_Sub.f k t241 t262).bind fun t265 => ((load_product.f k (([2, (rd_T40 ((rd_T51 l0 0).f0) a1).f0, 1000000000] : List Int))).bind fun t271 => (some (t265, t271))))))) = some (r1, r2) := H
 have A10 := aM A100; clear A100
 replace H := oB H
 obtain ⟨t241, A110, H⟩ := H
 replace H : (if ((rd_T40 ((rd_T51 l0 0).f0) a1).f2) ≥ ((rd_T40 ((rd_T51 l0 0).f0) a1).f1) then ((load_product.f k (([wrap64 (((rd_T40 ((rd_T51 l0 0).f0) a1).f2) - ((rd_T40 ((rd_T51 l0 0).f0) a1).f1)), a2, a2] : List Int))).bind fun t247 => ((nat_Add.f k t241 t247).bind fun t250 => ((load_product.f k (([2, (rd_T40 ((rd_T51 l0 0).f0) a1).f0, 1000000000] : List Int))).bind fun t256 => (some (t250, t256))))) else ((load_product.f k (([wrap64 (((rd_T40 ((rd_T51 l0 0).f0) a1).f1) - ((rd_T40 ((rd_T51 l0 0).f0) a1).f2)), a2, a2] : List Int))).bind fun t262 => ((nat_Sub.f k t241 t262).bind fun t265 => ((load_product.f k (([2, (rd_T40 ((rd_T51 l0 0).f0) a1).f0, 1000000000] : List Int))).bind fun t271 => (some (t265, t271)))))) = some (r1, r2) := H
 have A11 := aM A110; clear A110
 by_cases c12 : ((rd_T40 ((rd_T51 l0 0).f0) a1).f2) ≥ ((rd_T40 ((rd_T51 l0 0).f0) a1).f1)
 ·rw [if_pos c12] at H
  have c12b0 : decide (((rd_T40 ((rd_T51 l0 0).f0) a1).f1) ≤ ((rd_T40 ((rd_T51 l0 0).f0) a1).f2)) = true := dT c12
  clear c12
  obtain ⟨y244, hy244⟩ : ∃ y_ : List Int, y_ = (([wrap64 (((rd_T40 ((rd_T51 l0 0).f0) a1).f2) - ((rd_T40 ((rd_T51 l0 0).f0) a1).f1)), a2, a2] : List Int)) := ⟨_, rfl⟩
  replace H : ((load_product.f k y244).bind fun t247 => ((nat_Add.f k t241 t247).bind fun t250 => ((load_product.f k (([2, (rd_T40 ((rd_T51 l0 0).f0) a1).f0, 1000000000] : List Int))).bind fun t256 => (some (t250, t256))))) = some (r1, r2) := by first | (rw [hy244]; exact H) | exact H
  have Ny244 := aM hy244
  clear hy244
  replace H := oB H
  obtain ⟨t247, A130, H⟩ := H
  replace H : ((nat_Add.f k t241 t247).bind fun t250 => ((load_product.f k (([2, (rd_T40 ((rd_T51 l0 0).f0) a1).f0, 1000000000] : List Int))).bind fun t256 => (some (t250, t256)))) = some (r1, r2) := H
  have A13 := aM A130; clear A130
  replace H := oB H
  obtain ⟨t250, A140, H⟩ := H
  replace H : ((load_product.f k (([2, (rd_T40 ((rd_T51 l0 0).f0) a1).f0, 1000000000] : List Int))).bind fun t256 => (some (t250, t256))) = some (r1, r2) := H
  have A14 := aM A140; clear A140
  obtain ⟨y253, hy253⟩ : ∃ y_ : List Int, y_ = (([2, (rd_T40 ((rd_T51 l0 0).f0) a1).f0, 1000000000] : List Int)) := ⟨_, rfl⟩
  replace H : ((load_product.f k y253).bind fun t256 => (some (t250, t256))) = some (r1, r2) := by first | (rw [hy253]; exact H) | exact H
  have Ny253 := aM hy253
  clear hy253
  replace H := oB H
  obtain ⟨t256, A150, H⟩ := H
  replace H : (some (t250, t256)) = some (r1, r2) := H
  have A15 := aM A150; clear A150
  simp only [Option.some.injEq, Prod.mk.injEq] at H
  obtain ⟨rfl, rfl⟩ := H
  go_enter Try.func32, Try.ntmps32
  try go_wp2_with (first | ((with_reducible refine gate_dst (N := 6) rfl ?_); refine box_event ?hg (N := 6) ?hd (cs := #[.slice none 0 0, .slice none 0 0]) (t := 57) ?hr ?_; (case hd => rfl); (case hg => rfl); (case hr => first | (go_simp; done) | (go_simp; rfl)); intro gb223 hg w16 hbox hb; have n0_ := aM (bS (by apply_rules [HB.out, bA, pN, bD]) hb); have n1_ := aM (hbox); have n2_ := aM ((by rw [hg]; exact (bZ (by apply_rules [HB.out, bA, pN, bD])) : w.heap.size ≤ gb223)); have n3_ := aM ((by rw [hg]; exact (bZ (by apply_rules [HB.out, bA, pN, bD])) : w.heap.size ≤ gb223)); clear HB; have HB := n0_; have BK223 := n1_; have GW223 := n2_; have GE223 := n3_; clear n0_ n1_ n2_ n3_ hb hbox hg; have p224 : 0 ≤ (0 : Int) := (by omega); have q224 : 0 < (l0.length : Int) := oD (by first | (with_reducible assumption) | assumption); obtain ⟨ad224, A224_0, c224_0, A224_1, c224_1, A224_2, c224_2, e224, hx224_0, hx224_1, hx224_2, hl224_0, hi224_0, hl224_1, hi224_1, hl224_2, hi224_2⟩ := at_T51 HR0.out 0 p224 q224; have hv224_0 := hx224_0; have hv224_1 := hx224_1; have hv224_2 := hx224_2; cases e224; have qi224 : (0 < l0.length) = True := eq_true (by omega); (try rw [show ((0 : Int)).toNat = 0 from rfl] at hx224_0); (try rw [show 0 * 3 = 0 from rfl] at hx224_0); (try rw [Addr.add_zero'] at hx224_0); (try rw [show ((0 : Int)).toNat = 0 from rfl] at hx224_1); (try rw [show 0 * 3 = 0 from rfl] at hx224_1); (try rw [Addr.add_zero'] at hx224_1); (try rw [show ((0 : Int)).toNat = 0 from rfl] at hx224_2); (try rw [show 0 * 3 = 0 from rfl] at hx224_2); (try rw [Addr.add_zero'] at hx224_2); replace hx224_0 := (HB.out.cell (wL w _ hx224_0)).trans hx224_0; replace hx224_1 := (HB.out.cell (wL w _ hx224_1)).trans hx224_1; replace hx224_2 := (HB.out.cell (wL w _ hx224_2)).trans hx224_2; have HR224_0 := aM hi224_0; have HC224_0 := aM hl224_0; clear hi224_0 hl224_0; have HR224_1 := aM hi224_1; have HC224_1 := aM hl224_1; clear hi224_1 hl224_1; have HR224_2 := aM hi224_2; have HC224_2 := aM hl224_2; clear hi224_2 hl224_2; replace p224 := eq_true p224; replace q224 := eq_true q224; have p225 : 0 ≤ (a1 : Int) := oD (by first | (with_reducible assumption) | assumption); have q225 : a1 < (((rd_T51 l0 0).f0).length : Int) := oD (by first | (with_reducible assumption) | assumption); obtain ⟨ad225, e225, hx225_0, hx225_1, hx225_2⟩ := at_T40 HR224_0.out a1 p225 q225; cases e225; replace hx225_0 := (HB.out.cell (wL w _ hx225_0)).trans hx225_0; replace hx225_1 := (HB.out.cell (wL w _ hx225_1)).trans hx225_1; replace hx225_2 := (HB.out.cell (wL w _ hx225_2)).trans hx225_2; replace p225 := eq_true p225; replace q225 := eq_true q225) | ((with_reducible refine gate_dst (N := 7) rfl ?_); refine box_event ?hg (N := 7) ?hd (cs := #[.int .i64 0, .int .i64 0, .int .i64 0]) (t := 40) ?hr ?_; (case hd => rfl); (case hg => rfl); (case hr => first | (go_simp; done) | (go_simp; rfl)); intro gb226 hg w17 hbox hb; have n0_ := aM (blk_below (g := gb223) (o := .cells #[.slice none 0 0, .slice none 0 0] 57 (0, 0)) (by apply_rules [BK223.out, kN, kD, kA]) hb); have n1_ := aM (bS (by repeat (first | (with_reducible first | exact HB.out | apply bA | apply pN | apply bD | refine bE ?_ GE223.out) | exact HB.out)) hb); have n2_ := aM (hbox); have n3_ := aM ((by rw [hg]; exact (bZ (by repeat (first | (with_reducible first | exact HB.out | apply bA | apply pN | apply bD | refine bE ?_ GE223.out) | exact HB.out))) : w.heap.size ≤ gb226)); have n4_ := aM ((by rw [hg]; exact (bZ (by repeat (first | (with_reducible first | exact HB.out | apply bA | apply pN | apply bD | refine bE ?_ GE223.out) | exact HB.out))) : w.heap.size ≤ gb226)); have n5_ := aM ((by rw [hg]; exact Nat.ne_of_lt (blk_lt (g := gb223) (o := .cells #[.slice none 0 0, .slice none 0 0] 57 (0, 0)) (by apply_rules [BK223.out, kN, kD, kA])) : gb223 ≠ gb226)); have n6_ := aM ((by rw [hg]; exact Nat.ne_of_gt (blk_lt (g := gb223) (o := .cells #[.slice none 0 0, .slice none 0 0] 57 (0, 0)) (by apply_rules [BK223.out, kN, kD, kA])) : gb226 ≠ gb223)); clear BK223 HB; have BK223 := n0_; have HB := n1_; have BK226 := n2_; have GW226 := n3_; have GE226 := n4_; have NB223_226 := n5_; have NB226_223 := n6_; clear n0_ n1_ n2_ n3_ n4_ n5_ n6_ hb hbox hg; have hnb18 := NB226_223.out; have hnc18 := NB223_226.out; have hcz19_0 : w17.cell? ⟨gb226, 0, none⟩ = some (.int .i64 0) := (kC BK226.out 0).trans rfl; have hcz19_1 : w17.cell? ⟨gb226, 1, none⟩ = some (.int .i64 0) := (kC BK226.out 1).trans rfl; have hcz19_2 : w17.cell? ⟨gb226, 2, none⟩ = some (.int .i64 0) := (kC BK226.out 2).trans rfl; have hfz19_0 := blk_frozen BK226.out 0; have hfz19_1 := blk_frozen BK226.out 1; have hfz19_2 := blk_frozen BK226.out 2))
  have n0_ : Aside0 ((((w17.setCell ⟨gb226, 0, none⟩ (.int .i64 ((rd_T40 ((rd_T51 l0 0).f0) a1).f0))).setCell ⟨gb226, 1, none⟩ (.int .i64 ((rd_T40 ((rd_T51 l0 0).f0) a1).f1))).setCell ⟨gb226, 2, none⟩ (.int .i64 ((rd_T40 ((rd_T51 l0 0).f0) a1).f2))).heap[gb223]? = some (.cells #[.slice none 0 0, .slice none 0 0] 57 (0, 0))) := ⟨by (with_reducible repeat (first | refine kN ?_ _ | refine kD ?_ | refine kA ?_ _)); refine blk_far ?_ NB223_226.out _; (with_reducible repeat (first | refine kN ?_ _ | refine kD ?_ | refine kA ?_ _)); refine blk_far ?_ NB223_226.out _; (with_reducible repeat (first | refine kN ?_ _ | refine kD ?_ | refine kA ?_ _)); refine blk_far ?_ NB223_226.out _; (with_reducible repeat (first | refine kN ?_ _ | refine kD ?_ | refine kA ?_ _)); exact BK223.out⟩
  have n1_ : Aside0 ((((w17.setCell ⟨gb226, 0, none⟩ (.int .i64 ((rd_T40 ((rd_T51 l0 0).f0) a1).f0))).setCell ⟨gb226, 1, none⟩ (.int .i64 ((rd_T40 ((rd_T51 l0 0).f0) a1).f1))).setCell ⟨gb226, 2, none⟩ (.int .i64 ((rd_T40 ((rd_T51 l0 0).f0) a1).f2))).heap[gb226]? = some (.cells #[.int .i64 ((rd_T40 ((rd_T51 l0 0).f0) a1).f0), .int .i64 ((rd_T40 ((rd_T51 l0 0).f0) a1).f1), .int .i64 ((rd_T40 ((rd_T51 l0 0).f0) a1).f2)] 40 (0, 0))) := ⟨by (with_reducible repeat (first | refine kN ?_ _ | refine kD ?_ | refine kA ?_ _)); refine blk_put (cs := #[.int .i64 ((rd_T40 ((rd_T51 l0 0).f0) a1).f0), .int .i64 ((rd_T40 ((rd_T51 l0 0).f0) a1).f1), .int .i64 0]) ?_ 2 _ rfl; (with_reducible repeat (first | refine kN ?_ _ | refine kD ?_ | refine kA ?_ _)); refine blk_put (cs := #[.int .i64 ((rd_T40 ((rd_T51 l0 0).f0) a1).f0), .int .i64 0, .int .i64 0]) ?_ 1 _ rfl; (with_reducible repeat (first | refine kN ?_ _ | refine kD ?_ | refine kA ?_ _)); refine blk_put (cs := #[.int .i64 0, .int .i64 0, .int .i64 0]) ?_ 0 _ rfl; (with_reducible repeat (first | refine kN ?_ _ | refine kD ?_ | refine kA ?_ _)); exact BK226.out⟩
  have n2_ : Aside0 (Below w.heap.size w (((w17.setCell ⟨gb226, 0, none⟩ (.int .i64 ((rd_T40 ((rd_T51 l0 0).f0) a1).f0))).setCell ⟨gb226, 1, none⟩ (.int .i64 ((rd_T40 ((rd_T51 l0 0).f0) a1).f1))).setCell ⟨gb226, 2, none⟩ (.int .i64 ((rd_T40 ((rd_T51 l0 0).f0) a1).f2)))) := ⟨by repeat (first | (with_reducible first | exact HB.out | apply bA | apply pN | apply bD | refine bE ?_ GE223.out | refine bE ?_ GE226.out) | exact HB.out)⟩
  (try clear BK223)
  (try clear BK226)
  (try clear HB)
  generalize (((w17.setCell ⟨gb226, 0, none⟩ (.int .i64 ((rd_T40 ((rd_T51 l0 0).f0) a1).f0))).setCell ⟨gb226, 1, none⟩ (.int .i64 ((rd_T40 ((rd_T51 l0 0).f0) a1).f1))).setCell ⟨gb226, 2, none⟩ (.int .i64 ((rd_T40 ((rd_T51 l0 0).f0) a1).f2))) = w20 at n0_ n1_ n2_ ⊢
  have BK223 := n0_; have BK226 := n1_; have HB := n2_; clear n0_ n1_ n2_; have n0_ := aM (kD BK223.out); have n1_ := aM (kD BK226.out); have n2_ := aM (bD HB.out); clear BK223 BK226 HB; have BK223 := n0_; have BK226 := n1_; have HB := n2_; clear n0_ n1_ n2_
  have p227 : 0 ≤ (0 : Int) := (by omega)
  have q227 : 0 < (l0.length : Int) := oD (by first | (with_reducible assumption) | assumption)
  obtain ⟨ad227, A227_0, c227_0, A227_1, c227_1, A227_2, c227_2, e227, hx227_0, hx227_1, hx227_2, hl227_0, hi227_0, hl227_1, hi227_1, hl227_2, hi227_2⟩ := at_T51 HR0.out 0 p227 q227
  have hw227_2 := hx227_2
  (try rw [show ((0 : Int)).toNat = 0 from rfl] at hw227_2)
  (try rw [show 0 * 3 = 0 from rfl] at hw227_2)
  (try rw [Addr.add_zero'] at hw227_2)
  have hw227_1 := hx227_1
  (try rw [show ((0 : Int)).toNat = 0 from rfl] at hw227_1)
  (try rw [show 0 * 3 = 0 from rfl] at hw227_1)
  (try rw [Addr.add_zero'] at hw227_1)
  have hw227_0 := hx227_0
  (try rw [show ((0 : Int)).toNat = 0 from rfl] at hw227_0)
  (try rw [show 0 * 3 = 0 from rfl] at hw227_0)
  (try rw [Addr.add_zero'] at hw227_0)
  have hv227_0 := hx227_0
  have hv227_1 := hx227_1
  have hv227_2 := hx227_2
  obtain rfl : ad224 = ad227 := (by injection e227)
  have qi227 : (0 < l0.length) = True := eq_true (by omega)
  (try rw [show ((0 : Int)).toNat = 0 from rfl] at hx227_0)
  (try rw [show 0 * 3 = 0 from rfl] at hx227_0)
  (try rw [Addr.add_zero'] at hx227_0)
  (try rw [show ((0 : Int)).toNat = 0 from rfl] at hx227_1)
  (try rw [show 0 * 3 = 0 from rfl] at hx227_1)
  (try rw [Addr.add_zero'] at hx227_1)
  (try rw [show ((0 : Int)).toNat = 0 from rfl] at hx227_2)
  (try rw [show 0 * 3 = 0 from rfl] at hx227_2)
  (try rw [Addr.add_zero'] at hx227_2)
  replace hx227_0 := (HB.out.cell (wL w _ hx227_0)).trans hx227_0
  replace hx227_1 := (HB.out.cell (wL w _ hx227_1)).trans hx227_1
  replace hx227_2 := (HB.out.cell (wL w _ hx227_2)).trans hx227_2
  have HR227_0 := aM hi227_0
  have HC227_0 := aM hl227_0
  clear hi227_0 hl227_0
  have HR227_1 := aM hi227_1
  have HC227_1 := aM hl227_1
  clear hi227_1 hl227_1
  have HR227_2 := aM hi227_2
  have HC227_2 := aM hl227_2
  clear hi227_2 hl227_2
  replace p227 := eq_true p227
  replace q227 := eq_true q227
  have p228 : 0 ≤ (a1 : Int) := oD (by first | (with_reducible assumption) | assumption)
  have q228 : a1 < (((rd_T51 l0 0).f2).length : Int) := oD (by first | (with_reducible assumption) | assumption)
  obtain ⟨ad228, A228_0, c228_0, e228, hx228_0, hl228_0, hi228_0⟩ := at_L3 HR227_2.out a1 p228 q228
  have hw228_0 := hx228_0
  have hv228_0 := hx228_0
  cases e228
  replace hx228_0 := (HB.out.cell (wL w _ hx228_0)).trans hx228_0
  have HR228_0 := aM hi228_0
  have HC228_0 := aM hl228_0
  clear hi228_0 hl228_0
  replace p228 := eq_true p228
  replace q228 := eq_true q228
  refine start_ (n := 20) (S := fun w' => w'.cell? ⟨gb226, 0, none⟩ = some (.int .i64 ((rd_T40 ((rd_T51 l0 0).f0) a1).f0)) ∧ w'.cell? ⟨gb226, 1, none⟩ = some (.int .i64 ((rd_T40 ((rd_T51 l0 0).f0) a1).f1)) ∧ w'.cell? ⟨gb226, 2, none⟩ = some (.int .i64 ((rd_T40 ((rd_T51 l0 0).f0) a1).f2)) ∧ w'.cell? ad224 = some (.slice A227_0 ((rd_T51 l0 0).f0).length c227_0) ∧ w'.cell? ⟨ad224.block, ad224.off + 1, none⟩ = some (.slice A227_1 ((rd_T51 l0 0).f1).length c227_1) ∧ w'.cell? ⟨ad224.block, ad224.off + 2, none⟩ = some (.slice (some ad228) ((rd_T51 l0 0).f2).length c227_2) ∧ w'.cell? (ad228.add (a1).toNat) = some (.slice A228_0 (rd_L3 ((rd_T51 l0 0).f2) a1).length c228_0)) (ds := []) #[false, false, false, false, false, false, false, false, false, false, false, false, false, false, false, false, false, false, false, false] (by kernel_rfl) rfl rfl ⟨(kC BK226.out 0).trans rfl, (kC BK226.out 1).trans rfl, (kC BK226.out 2).trans rfl, ((HB.out.cell (wL w _ hw227_0)).trans hw227_0), ((HB.out.cell (wL w _ hw227_1)).trans hw227_1), ((HB.out.cell (wL w _ hw227_2)).trans hw227_2), ((HB.out.cell (wL w _ hw228_0)).trans hw228_0)⟩ (fun hHeld => ?_); refine with_tabW load_line_area.tab2 load_line_area.bits2 (fun HT_ HW_ => ?_)
  generalize w20.drew = w21 at BK223 BK226 HB HR227_0 HR227_1 HR227_2 HR228_0 hx227_0 hx227_1 hx227_2 hx228_0 hHeld ⊢
  refine pure_ (i := 0) (N := some 16) (v := ?_) (a' := ?_) #[true, false, false, false, false, false, false, false, false, false, false, false, false, false, false, false, false, false, false, false] rfl rfl (any_of HT_.out (by kernel_rfl)) (fun _ _ _ h => h) (Or.inl ⟨by rfl, ?_⟩) ?_ ?_
  rotate_left
  ·intro w'
   go_simp
   with_reducible rfl
  rotate_left
  ·simp only [Act.put, sI, sZ, sS, i64_w]
   rfl
  refine pure_ (i := 1) (N := some 17) (v := ?_) (a' := ?_) #[true, true, false, false, false, false, false, false, false, false, false, false, false, false, false, false, false, false, false, false] rfl rfl (any_of HT_.out (by kernel_rfl)) (fun _ _ _ h => h) (Or.inl ⟨by rfl, ?_⟩) ?_ ?_
  rotate_left
  ·intro w'
   go_simp
   with_reducible rfl
  rotate_left
  ·simp only [Act.put, sI, sZ, sS, i64_w]
   rfl
  refine pure_ (i := 2) (N := some 18) (v := ?_) (a' := ?_) #[true, true, true, false, false, false, false, false, false, false, false, false, false, false, false, false, false, false, false, false] rfl rfl (any_of HT_.out (by kernel_rfl)) (fun _ _ _ h => h) (Or.inl ⟨by rfl, ?_⟩) ?_ ?_
  rotate_left
  ·intro w'
   go_simp
   with_reducible rfl
  rotate_left
  ·simp only [Act.put, sI, sZ, sS, i64_w]
   rfl
  refine pure_ (i := 4) (N := some 20) (v := ?_) (a' := ?_) #[true, true, true, false, true, false, false, false, false, false, false, false, false, false, false, false, false, false, false, false] rfl rfl (any_of HT_.out (by kernel_rfl)) (fun _ _ _ h => h) (Or.inl ⟨by rfl, ?_⟩) ?_ ?_
  rotate_left
  ·intro w'
   go_simp
   with_reducible rfl
  rotate_left
  ·simp only [Act.put, sI, sZ, sS, i64_w]
   rfl
  refine pure_ (i := 7) (N := some 23) (v := ?_) (a' := ?_) #[true, true, true, false, true, false, false, true, false, false, false, false, false, false, false, false, false, false, false, false] rfl rfl (any_of HT_.out (by kernel_rfl)) (fun _ _ _ h => h) (Or.inl ⟨by rfl, ?_⟩) ?_ ?_
  rotate_left
  ·intro w'
   go_simp
   with_reducible rfl
  rotate_left
  ·simp only [Act.put, sI, sZ, sS, i64_w]
   rfl
  refine pure_ (i := 11) (N := some 27) (v := ?_) (a' := ?_) #[true, true, true, false, true, false, false, true, false, false, false, true, false, false, false, false, false, false, false, false] rfl rfl (any_of HT_.out (by kernel_rfl)) (fun _ _ _ h => h) (Or.inl ⟨by rfl, ?_⟩) ?_ ?_
  rotate_left
  ·intro w'
   go_simp
   with_reducible rfl
  rotate_left
  ·simp only [Act.put, sI, sZ, sS, i64_w]
   rfl
  refine pure_ (i := 13) (N := some 29) (v := ?_) (a' := ?_) #[true, true, true, false, true, false, false, true, false, false, false, true, false, true, false, false, false, false, false, false] rfl rfl (any_of HT_.out (by kernel_rfl)) (fun _ _ _ h => h) (Or.inl ⟨by rfl, ?_⟩) ?_ ?_
  rotate_left
  ·intro w'
   go_simp
   with_reducible rfl
  rotate_left
  ·simp only [Act.put, sI, sZ, sS, i64_w]
   rfl
  refine pure_ (i := 15) (N := some 31) (v := ?_) (a' := ?_) #[true, true, true, false, true, false, false, true, false, false, false, true, false, true, false, true, false, false, false, false] rfl rfl (any_of HT_.out (by kernel_rfl)) (fun _ _ _ h => h) (Or.inl ⟨by rfl, ?_⟩) ?_ ?_
  rotate_left
  ·intro w'
   go_simp
   with_reducible rfl
  rotate_left
  ·simp only [Act.put, sI, sZ, sS, i64_w]
   rfl
  refine take_ (i := 3) (N := some 19) (v := ?_) (a' := ?_) #[true, true, true, true, true, false, false, true, false, false, false, true, false, true, false, true, false, false, false, false] rfl rfl (take_ofW HT_.out HW_.out (by kernel_rfl)) (fun _ _ _ h => h) (Or.inl ⟨by rfl, ?_⟩) hHeld ?_ ?_
  rotate_left
  ·rintro w' ⟨s0, s1, s2, s3, s4, s5, s6⟩
   go_simp
   with_reducible rfl
  rotate_left
  ·simp only [Act.put, sI, sZ, sS, i64_w]
   rfl
  refine pure_ (i := 5) (N := some 21) (v := ?_) (a' := ?_) #[true, true, true, true, true, true, false, true, false, false, false, true, false, true, false, true, false, false, false, false] rfl rfl (any_of HT_.out (by kernel_rfl)) (fun _ _ _ h => h) (Or.inl ⟨by rfl, ?_⟩) ?_ ?_
  rotate_left
  ·intro w'
   go_simp
   with_reducible rfl
  rotate_left
  ·simp only [Act.put, sI, sZ, sS, i64_w]
   rfl
  refine take_ (i := 6) (N := some 22) (v := ?_) (a' := ?_) #[true, true, true, true, true, true, true, true, false, false, false, true, false, true, false, true, false, false, false, false] rfl rfl (take_ofW HT_.out HW_.out (by kernel_rfl)) (fun _ _ _ h => h) (Or.inl ⟨by rfl, ?_⟩) hHeld ?_ ?_
  rotate_left
  ·rintro w' ⟨s0, s1, s2, s3, s4, s5, s6⟩
   go_simp
   with_reducible rfl
  rotate_left
  ·simp only [Act.put, sI, sZ, sS, i64_w]
   rfl
  refine take_ (i := 8) (N := some 24) (v := ?_) (a' := ?_) #[true, true, true, true, true, true, true, true, true, false, false, true, false, true, false, true, false, false, false, false] rfl rfl (take_ofW HT_.out HW_.out (by kernel_rfl)) (fun _ _ _ h => h) (Or.inl ⟨by rfl, ?_⟩) hHeld ?_ ?_
  rotate_left
  ·rintro w' ⟨s0, s1, s2, s3, s4, s5, s6⟩
   go_simp
   with_reducible rfl
  rotate_left
  ·simp only [Act.put, sI, sZ, sS, i64_w]
   rfl
  refine take_ (i := 12) (N := some 28) (v := ?_) (a' := ?_) #[true, true, true, true, true, true, true, true, true, false, false, true, true, true, false, true, false, false, false, false] rfl rfl (take_ofW HT_.out HW_.out (by kernel_rfl)) (fun _ _ _ h => h) (Or.inl ⟨by rfl, ?_⟩) hHeld ?_ ?_
  rotate_left
  ·rintro w' ⟨s0, s1, s2, s3, s4, s5, s6⟩
   go_simp
   with_reducible rfl
  rotate_left
  ·simp only [Act.put, sI, sZ, sS, i64_w]
   rfl
  refine take_ (i := 14) (N := some 30) (v := ?_) (a' := ?_) #[true, true, true, true, true, true, true, true, true, false, false, true, true, true, true, true, false, false, false, false] rfl rfl (take_ofW HT_.out HW_.out (by kernel_rfl)) (fun _ _ _ h => h) (Or.inl ⟨by rfl, ?_⟩) hHeld ?_ ?_
  rotate_left
  ·rintro w' ⟨s0, s1, s2, s3, s4, s5, s6⟩
   go_simp
   with_reducible rfl
  rotate_left
  ·simp only [Act.put, sI, sZ, sS, i64_w]
   rfl
  refine join_ (σ := Value × Value × Value) 3 #[true, true, true, true, true, true, true, true, true, true, true, true, true, true, true, true, true, false, false, false] (fun s_ => [(25, s_.1), (26, s_.2.1), (32, s_.2.2)]) (fun s_ w' => (w'.cell? ⟨gb226, 0, none⟩ = some (.int .i64 ((rd_T40 ((rd_T51 l0 0).f0) a1).f0)) ∧ w'.cell? ⟨gb226, 1, none⟩ = some (.int .i64 ((rd_T40 ((rd_T51 l0 0).f0) a1).f1)) ∧ w'.cell? ⟨gb226, 2, none⟩ = some (.int .i64 ((rd_T40 ((rd_T51 l0 0).f0) a1).f2)) ∧ w'.cell? ad224 = some (.slice A227_0 ((rd_T51 l0 0).f0).length c227_0) ∧ w'.cell? ⟨ad224.block, ad224.off + 1, none⟩ = some (.slice A227_1 ((rd_T51 l0 0).f1).length c227_1) ∧ w'.cell? ⟨ad224.block, ad224.off + 2, none⟩ = some (.slice (some ad228) ((rd_T51 l0 0).f2).length c227_2) ∧ w'.cell? (ad228.add (a1).toNat) = some (.slice A228_0 (rd_L3 ((rd_T51 l0 0).f2) a1).length c228_0)) ∧ (Kd.R (Kd.int .u64) 65 w' w.heap.size (fun k_ => some k_ ≠ (s_.2.1 : Value).ownBlock) s_.1 t229) ∧ (Kd.R (Kd.int .u64) 65 w' w.heap.size (fun k_ => some k_ ≠ (s_.1 : Value).ownBlock) s_.2.1 t232) ∧ (Kd.R (Kd.int .i64) 3 w' w.heap.size (fun _ => True) s_.2.2 y235) ∧ (w'.heap[gb223]? = some (.cells #[.slice none 0 0, .slice none 0 0] 57 (0, 0))) ∧ (w'.heap[gb226]? = some (.cells #[.int .i64 ((rd_T40 ((rd_T51 l0 0).f0) a1).f0), .int .i64 ((rd_T40 ((rd_T51 l0 0).f0) a1).f1), .int .i64 ((rd_T40 ((rd_T51 l0 0).f0) a1).f2)] 40 (0, 0))) ∧ (Below w.heap.size w w')) ?_ ?_
  rotate_left
  ·intro hCont
   refine two_ (i := 9) (j := 16) (Ni := some 25) (Nj := some 32) #[true, true, true, true, true, true, true, true, true, true, false, true, true, true, true, true, false, false, false, false] #[true, true, true, true, true, true, true, true, true, false, false, true, true, true, true, true, true, false, false, false] rfl rfl rfl rfl (two_of HT_.out (by kernel_rfl)) (by decide) (by decide) (fun K hK => ?_) (fun K hK => ?_)
   ·skip
    refine goes_ Try.func27 (by kernel_rfl) rfl #[.int .i64 ((rd_T40 ((rd_T51 l0 0).f0) a1).f0)] (by rfl) rfl rfl (by (try simp only [mA, mC, mN]); first | done | rfl | (simp only [lD, lT]; rfl)) ?_
    with_reducible refine (nat_Of.calls ((rd_T40 ((rd_T51 l0 0).f0) a1).f0) t229 _ A8.out).mono ?_
    rintro e w22 ⟨v230, rfl, ho0, hb⟩
    refine ⟨_, rfl, ?_⟩
    have n0_ := aM (Kd.R_lower ho0 (bZ (by repeat (first | (with_reducible first | exact HB.out | apply bA | apply pN | apply bD | refine bE ?_ GE223.out | refine bE ?_ GE226.out) | exact HB.out)))); have n1_ := aM (blk_below (g := gb223) (o := .cells #[.slice none 0 0, .slice none 0 0] 57 (0, 0)) (by apply_rules [BK223.out, kN, kD, kA]) hb); have n2_ := aM (blk_below (g := gb226) (o := .cells #[.int .i64 ((rd_T40 ((rd_T51 l0 0).f0) a1).f0), .int .i64 ((rd_T40 ((rd_T51 l0 0).f0) a1).f1), .int .i64 ((rd_T40 ((rd_T51 l0 0).f0) a1).f2)] 40 (0, 0)) (by apply_rules [BK226.out, kN, kD, kA]) hb); have n3_ := aM (bS (by repeat (first | (with_reducible first | exact HB.out | apply bA | apply pN | apply bD | refine bE ?_ GE223.out | refine bE ?_ GE226.out) | exact HB.out)) hb); clear BK223 BK226 HB; have HO231 := n0_; have BK223 := n1_; have BK226 := n2_; have HB := n3_; clear n0_ n1_ n2_ n3_
    (try clear hb)
    (try clear hb2)
    (try clear hk)
    (try clear hi)
    (try clear ho0)
    obtain ⟨Ao23, co23, eo23⟩ := Kd.R_slice HO231.out
    (first | subst eo23 | (injection eo23 with f1_ f2_ f3_; have f4_ := f1_.symm; have f5_ := f3_.symm; clear f1_ f2_ f3_; subst f4_; subst f5_))
    refine hK.out _ _ ⟨(kC BK226.out 0).trans rfl, (kC BK226.out 1).trans rfl, (kC BK226.out 2).trans rfl, ((HB.out.cell (wL w _ hw227_0)).trans hw227_0), ((HB.out.cell (wL w _ hw227_1)).trans hw227_1), ((HB.out.cell (wL w _ hw227_2)).trans hw227_2), ((HB.out.cell (wL w _ hw228_0)).trans hw228_0)⟩ (fun hHeld => ?_)
    clear hK K
    refine norm_ (a' := ?_) ?_ ?_
    rotate_left
    ·show Act.put _ (some 25) _ = _
     simp only [Act.put, sI, sZ, sS, i64_w]
     rfl
    refine two_ (i := 10) (j := 16) (Ni := some 26) (Nj := some 32) #[true, true, true, true, true, true, true, true, true, true, true, true, true, true, true, true, false, false, false, false] #[true, true, true, true, true, true, true, true, true, true, false, true, true, true, true, true, true, false, false, false] rfl rfl rfl rfl (two_of HT_.out (by kernel_rfl)) (by decide) (by decide) (fun K hK => ?_) (fun K hK => ?_)
    ·skip
     refine goes_ Try.func30 (by kernel_rfl) rfl #[.slice A228_0 (rd_L3 ((rd_T51 l0 0).f2) a1).length c228_0, .slice Ao23 t229.length co23] (by rfl) rfl rfl (by (try simp only [mA, mC, mN]); first | done | rfl | (simp only [lD, lT]; rfl)) ?_
     with_reducible refine (nat_Mul.calls k _ _ (rd_L3 ((rd_T51 l0 0).f2) a1) _ _ t229 t232 _ ?side1 ?side2 ?side3 ?side4 A9.out).mono ?_
     (case side1 => repeat (first | exact (Kd.C_below HR228_0.out HB.out) | (with_reducible refine cA ?_ _) | (with_reducible refine cN ?_ _) | (with_reducible refine cD ?_)))
     (case side2 => exact HC228_0.out)
     (case side3 => repeat (first | exact (rS HO231.out).2.2 | (with_reducible refine cA ?_ _) | (with_reducible refine cN ?_ _) | (with_reducible refine cD ?_)))
     (case side4 => exact (rS HO231.out).2.1)
     rintro e w24 ⟨v233, rfl, ho0, hb⟩
     refine ⟨_, rfl, ?_⟩
     have n0_ := aM (rE (by apply_rules [HO231.out, rN, rD]) (rB ho0) hb); have n1_ := aM (Kd.R_lower (rW ho0 (rL (by apply_rules [HO231.out, rN, rD]))) (bZ (by repeat (first | (with_reducible first | exact HB.out | apply bA | apply pN | apply bD | refine bE ?_ GE223.out | refine bE ?_ GE226.out) | exact HB.out)))); have n2_ := aM (blk_below (g := gb223) (o := .cells #[.slice none 0 0, .slice none 0 0] 57 (0, 0)) (by apply_rules [BK223.out, kN, kD, kA]) hb); have n3_ := aM (blk_below (g := gb226) (o := .cells #[.int .i64 ((rd_T40 ((rd_T51 l0 0).f0) a1).f0), .int .i64 ((rd_T40 ((rd_T51 l0 0).f0) a1).f1), .int .i64 ((rd_T40 ((rd_T51 l0 0).f0) a1).f2)] 40 (0, 0)) (by apply_rules [BK226.out, kN, kD, kA]) hb); have n4_ := aM (bS (by repeat (first | (with_reducible first | exact HB.out | apply bA | apply pN | apply bD | refine bE ?_ GE223.out | refine bE ?_ GE226.out) | exact HB.out)) hb); clear HO231 BK223 BK226 HB; have HO231 := n0_; have HO234 := n1_; have BK223 := n2_; have BK226 := n3_; have HB := n4_; clear n0_ n1_ n2_ n3_ n4_
     (try clear hb)
     (try clear hb2)
     (try clear hk)
     (try clear hi)
     (try clear ho0)
     refine hK.out _ _ ⟨(kC BK226.out 0).trans rfl, (kC BK226.out 1).trans rfl, (kC BK226.out 2).trans rfl, ((HB.out.cell (wL w _ hw227_0)).trans hw227_0), ((HB.out.cell (wL w _ hw227_1)).trans hw227_1), ((HB.out.cell (wL w _ hw227_2)).trans hw227_2), ((HB.out.cell (wL w _ hw228_0)).trans hw228_0)⟩ (fun hHeld => ?_)
     clear hK K
     refine norm_ (a' := ?_) ?_ ?_
     rotate_left
     ·show Act.put _ (some 26) _ = _
      simp only [Act.put, sI, sZ, sS, i64_w]
      rfl
     refine one_ (i := 16) (N := some 32) #[true, true, true, true, true, true, true, true, true, true, true, true, true, true, true, true, true, false, false, false] rfl rfl (one_of HT_.out (by kernel_rfl)) (by decide) (fun K hK => ?_)
     refine Kd.R_lit_step (Kd.int .i64) _ 3 ?hg (N := 32) ?hd (xs := ([2, (rd_T40 ((rd_T51 l0 0).f0) a1).f0, (rd_T40 ((rd_T51 l0 0).f0) a1).f1, a2] : List Int)) (inner := [.int .i64 2, .int .i64 ((rd_T40 ((rd_T51 l0 0).f0) a1).f0), .int .i64 ((rd_T40 ((rd_T51 l0 0).f0) a1).f1), .int .i64 a2]) (ok := fun _ => True) (okp := fun _ => True) ?hr ?hp (fun _ hk => hk) trivial (Below.refl _ _) (Nat.le_refl _) (by simp) ?_; (case hd => rfl); (case hg => rfl); (case hr => first | (go_simp; done) | (go_simp; rfl)); (case hp => exact (Reps.one (show Kd.M (Kd.int .i64) _ _ _ 2 [.int .i64 2] from rfl) (Reps.one (show Kd.M (Kd.int .i64) _ _ _ ((rd_T40 ((rd_T51 l0 0).f0) a1).f0) [.int .i64 ((rd_T40 ((rd_T51 l0 0).f0) a1).f0)] from rfl) (Reps.one (show Kd.M (Kd.int .i64) _ _ _ ((rd_T40 ((rd_T51 l0 0).f0) a1).f1) [.int .i64 ((rd_T40 ((rd_T51 l0 0).f0) a1).f1)] from rfl) (Reps.one (show Kd.M (Kd.int .i64) _ _ _ a2 [.int .i64 a2] from rfl) (Reps.none _ _))))))
     intro v236 w25 ho26 hb hg_ hnew_
     clear hg_ hnew_
     (first | rw [← Ny235.out] at ho26 | (simp only [Int.reduceToNat] at ho26; rw [← Ny235.out] at ho26))
     have n0_ := aM (rO (by apply_rules [HO231.out, rN, rD]) hb); have n1_ := aM (rO (by apply_rules [HO234.out, rN, rD]) hb); have n2_ := aM (Kd.R_lower ho26 (bZ (by repeat (first | (with_reducible first | exact HB.out | apply bA | apply pN | apply bD | refine bE ?_ GE223.out | refine bE ?_ GE226.out) | exact HB.out)))); have n3_ := aM (blk_below (g := gb223) (o := .cells #[.slice none 0 0, .slice none 0 0] 57 (0, 0)) (by apply_rules [BK223.out, kN, kD, kA]) hb); have n4_ := aM (blk_below (g := gb226) (o := .cells #[.int .i64 ((rd_T40 ((rd_T51 l0 0).f0) a1).f0), .int .i64 ((rd_T40 ((rd_T51 l0 0).f0) a1).f1), .int .i64 ((rd_T40 ((rd_T51 l0 0).f0) a1).f2)] 40 (0, 0)) (by apply_rules [BK226.out, kN, kD, kA]) hb); have n5_ := aM (bS (by repeat (first | (with_reducible first | exact HB.out | apply bA | apply pN | apply bD | refine bE ?_ GE223.out | refine bE ?_ GE226.out) | exact HB.out)) hb); clear HO231 HO234 BK223 BK226 HB; have HO231 := n0_; have HO234 := n1_; have HO237 := n2_; have BK223 := n3_; have BK226 := n4_; have HB := n5_; clear n0_ n1_ n2_ n3_ n4_ n5_ hb ho26
     refine hK.out _ _ ⟨(kC BK226.out 0).trans rfl, (kC BK226.out 1).trans rfl, (kC BK226.out 2).trans rfl, ((HB.out.cell (wL w _ hw227_0)).trans hw227_0), ((HB.out.cell (wL w _ hw227_1)).trans hw227_1), ((HB.out.cell (wL w _ hw227_2)).trans hw227_2), ((HB.out.cell (wL w _ hw228_0)).trans hw228_0)⟩ (fun hHeld => ?_)
     clear hK K
     refine norm_ (a' := ?_) ?_ ?_
     rotate_left
     ·show Act.put _ (some 32) _ = _
      simp only [Act.put, sI, sZ, sS, i64_w]
      rfl
     exact norm_ (by simp only [putAll, Act.put, sI, sZ, sS]) (hCont (.slice Ao23 t229.length co23, v233, v236) _ ⟨hHeld, (by (with_reducible repeat (first | apply rN | apply rD)); exact Kd.R_mono HO231.out (fun _ hk => hk.2)), (by (with_reducible repeat (first | apply rN | apply rD)); exact Kd.R_mono HO234.out (fun _ hk => hk.2)), (by apply_rules [HO237.out, rN, rD]), (by apply_rules [BK223.out, kN, kD, kA]), (by apply_rules [BK226.out, kN, kD, kA]), (by repeat (first | (with_reducible first | exact HB.out | apply bA | apply pN | apply bD | refine bE ?_ GE223.out | refine bE ?_ GE226.out) | exact HB.out))⟩)
    ·skip
     refine Kd.R_lit_step (Kd.int .i64) _ 3 ?hg (N := 32) ?hd (xs := ([2, (rd_T40 ((rd_T51 l0 0).f0) a1).f0, (rd_T40 ((rd_T51 l0 0).f0) a1).f1, a2] : List Int)) (inner := [.int .i64 2, .int .i64 ((rd_T40 ((rd_T51 l0 0).f0) a1).f0), .int .i64 ((rd_T40 ((rd_T51 l0 0).f0) a1).f1), .int .i64 a2]) (ok := fun _ => True) (okp := fun _ => True) ?hr ?hp (fun _ hk => hk) trivial (Below.refl _ _) (Nat.le_refl _) (by simp) ?_; (case hd => rfl); (case hg => rfl); (case hr => first | (go_simp; done) | (go_simp; rfl)); (case hp => exact (Reps.one (show Kd.M (Kd.int .i64) _ _ _ 2 [.int .i64 2] from rfl) (Reps.one (show Kd.M (Kd.int .i64) _ _ _ ((rd_T40 ((rd_T51 l0 0).f0) a1).f0) [.int .i64 ((rd_T40 ((rd_T51 l0 0).f0) a1).f0)] from rfl) (Reps.one (show Kd.M (Kd.int .i64) _ _ _ ((rd_T40 ((rd_T51 l0 0).f0) a1).f1) [.int .i64 ((rd_T40 ((rd_T51 l0 0).f0) a1).f1)] from rfl) (Reps.one (show Kd.M (Kd.int .i64) _ _ _ a2 [.int .i64 a2] from rfl) (Reps.none _ _))))))
     intro v236 w23 ho24 hb hg_ hnew_
     clear hg_ hnew_
     (first | rw [← Ny235.out] at ho24 | (simp only [Int.reduceToNat] at ho24; rw [← Ny235.out] at ho24))
     have n0_ := aM (rO (by apply_rules [HO231.out, rN, rD]) hb); have n1_ := aM (Kd.R_lower ho24 (bZ (by repeat (first | (with_reducible first | exact HB.out | apply bA | apply pN | apply bD | refine bE ?_ GE223.out | refine bE ?_ GE226.out) | exact HB.out)))); have n2_ := aM (blk_below (g := gb223) (o := .cells #[.slice none 0 0, .slice none 0 0] 57 (0, 0)) (by apply_rules [BK223.out, kN, kD, kA]) hb); have n3_ := aM (blk_below (g := gb226) (o := .cells #[.int .i64 ((rd_T40 ((rd_T51 l0 0).f0) a1).f0), .int .i64 ((rd_T40 ((rd_T51 l0 0).f0) a1).f1), .int .i64 ((rd_T40 ((rd_T51 l0 0).f0) a1).f2)] 40 (0, 0)) (by apply_rules [BK226.out, kN, kD, kA]) hb); have n4_ := aM (bS (by repeat (first | (with_reducible first | exact HB.out | apply bA | apply pN | apply bD | refine bE ?_ GE223.out | refine bE ?_ GE226.out) | exact HB.out)) hb); clear HO231 BK223 BK226 HB; have HO231 := n0_; have HO237 := n1_; have BK223 := n2_; have BK226 := n3_; have HB := n4_; clear n0_ n1_ n2_ n3_ n4_ hb ho24
     obtain ⟨Ao25, co25, eo25⟩ := Kd.R_slice HO231.out
     (first | subst eo25 | (injection eo25 with f1_ f2_ f3_; have f4_ := f1_.symm; have f5_ := f3_.symm; clear f1_ f2_ f3_; subst f4_; subst f5_))
     refine hK.out _ _ ⟨(kC BK226.out 0).trans rfl, (kC BK226.out 1).trans rfl, (kC BK226.out 2).trans rfl, ((HB.out.cell (wL w _ hw227_0)).trans hw227_0), ((HB.out.cell (wL w _ hw227_1)).trans hw227_1), ((HB.out.cell (wL w _ hw227_2)).trans hw227_2), ((HB.out.cell (wL w _ hw228_0)).trans hw228_0)⟩ (fun hHeld => ?_)
     clear hK K
     refine norm_ (a' := ?_) ?_ ?_
     rotate_left
     ·show Act.put _ (some 32) _ = _
      simp only [Act.put, sI, sZ, sS, i64_w]
      rfl
     refine one_ (i := 10) (N := some 26) #[true, true, true, true, true, true, true, true, true, true, true, true, true, true, true, true, true, false, false, false] rfl rfl (one_of HT_.out (by kernel_rfl)) (by decide) (fun K hK => ?_)
     refine goes_ Try.func30 (by kernel_rfl) rfl #[.slice A228_0 (rd_L3 ((rd_T51 l0 0).f2) a1).length c228_0, .slice Ao25 t229.length co25] (by rfl) rfl rfl (by (try simp only [mA, mC, mN]); first | done | rfl | (simp only [lD, lT]; rfl)) ?_
     with_reducible refine (nat_Mul.calls k _ _ (rd_L3 ((rd_T51 l0 0).f2) a1) _ _ t229 t232 _ ?side1 ?side2 ?side3 ?side4 A9.out).mono ?_
     (case side1 => repeat (first | exact (Kd.C_below HR228_0.out HB.out) | (with_reducible refine cA ?_ _) | (with_reducible refine cN ?_ _) | (with_reducible refine cD ?_)))
     (case side2 => exact HC228_0.out)
     (case side3 => repeat (first | exact (rS HO231.out).2.2 | (with_reducible refine cA ?_ _) | (with_reducible refine cN ?_ _) | (with_reducible refine cD ?_)))
     (case side4 => exact (rS HO231.out).2.1)
     rintro e w26 ⟨v233, rfl, ho0, hb⟩
     refine ⟨_, rfl, ?_⟩
     have n0_ := aM (rE (by apply_rules [HO231.out, rN, rD]) (rB ho0) hb); have n1_ := aM (rO (by apply_rules [HO237.out, rN, rD]) hb); have n2_ := aM (Kd.R_lower (rW ho0 (rL (by apply_rules [HO231.out, rN, rD]))) (bZ (by repeat (first | (with_reducible first | exact HB.out | apply bA | apply pN | apply bD | refine bE ?_ GE223.out | refine bE ?_ GE226.out) | exact HB.out)))); have n3_ := aM (blk_below (g := gb223) (o := .cells #[.slice none 0 0, .slice none 0 0] 57 (0, 0)) (by apply_rules [BK223.out, kN, kD, kA]) hb); have n4_ := aM (blk_below (g := gb226) (o := .cells #[.int .i64 ((rd_T40 ((rd_T51 l0 0).f0) a1).f0), .int .i64 ((rd_T40 ((rd_T51 l0 0).f0) a1).f1), .int .i64 ((rd_T40 ((rd_T51 l0 0).f0) a1).f2)] 40 (0, 0)) (by apply_rules [BK226.out, kN, kD, kA]) hb); have n5_ := aM (bS (by repeat (first | (with_reducible first | exact HB.out | apply bA | apply pN | apply bD | refine bE ?_ GE223.out | refine bE ?_ GE226.out) | exact HB.out)) hb); clear HO231 HO237 BK223 BK226 HB; have HO231 := n0_; have HO237 := n1_; have HO234 := n2_; have BK223 := n3_; have BK226 := n4_; have HB := n5_; clear n0_ n1_ n2_ n3_ n4_ n5_
     (try clear hb)
     (try clear hb2)
     (try clear hk)
     (try clear hi)
     (try clear ho0)
     refine hK.out _ _ ⟨(kC BK226.out 0).trans rfl, (kC BK226.out 1).trans rfl, (kC BK226.out 2).trans rfl, ((HB.out.cell (wL w _ hw227_0)).trans hw227_0), ((HB.out.cell (wL w _ hw227_1)).trans hw227_1), ((HB.out.cell (wL w _ hw227_2)).trans hw227_2), ((HB.out.cell (wL w _ hw228_0)).trans hw228_0)⟩ (fun hHeld => ?_)
     clear hK K
     refine norm_ (a' := ?_) ?_ ?_
     rotate_left
     ·show Act.put _ (some 26) _ = _
      simp only [Act.put, sI, sZ, sS, i64_w]
      rfl
     exact norm_ (by simp only [putAll, Act.put, sI, sZ, sS]) (hCont (.slice Ao25 t229.length co25, v233, v236) _ ⟨hHeld, (by (with_reducible repeat (first | apply rN | apply rD)); exact Kd.R_mono HO231.out (fun _ hk => hk.2)), (by (with_reducible repeat (first | apply rN | apply rD)); exact Kd.R_mono HO234.out (fun _ hk => hk.2)), (by apply_rules [HO237.out, rN, rD]), (by apply_rules [BK223.out, kN, kD, kA]), (by apply_rules [BK226.out, kN, kD, kA]), (by repeat (first | (with_reducible first | exact HB.out | apply bA | apply pN | apply bD | refine bE ?_ GE223.out | refine bE ?_ GE226.out) | exact HB.out))⟩)
   ·skip
    refine Kd.R_lit_step (Kd.int .i64) _ 3 ?hg (N := 32) ?hd (xs := ([2, (rd_T40 ((rd_T51 l0 0).f0) a1).f0, (rd_T40 ((rd_T51 l0 0).f0) a1).f1, a2] : List Int)) (inner := [.int .i64 2, .int .i64 ((rd_T40 ((rd_T51 l0 0).f0) a1).f0), .int .i64 ((rd_T40 ((rd_T51 l0 0).f0) a1).f1), .int .i64 a2]) (ok := fun _ => True) (okp := fun _ => True) ?hr ?hp (fun _ hk => hk) trivial (Below.refl _ _) (Nat.le_refl _) (by simp) ?_; (case hd => rfl); (case hg => rfl); (case hr => first | (go_simp; done) | (go_simp; rfl)); (case hp => exact (Reps.one (show Kd.M (Kd.int .i64) _ _ _ 2 [.int .i64 2] from rfl) (Reps.one (show Kd.M (Kd.int .i64) _ _ _ ((rd_T40 ((rd_T51 l0 0).f0) a1).f0) [.int .i64 ((rd_T40 ((rd_T51 l0 0).f0) a1).f0)] from rfl) (Reps.one (show Kd.M (Kd.int .i64) _ _ _ ((rd_T40 ((rd_T51 l0 0).f0) a1).f1) [.int .i64 ((rd_T40 ((rd_T51 l0 0).f0) a1).f1)] from rfl) (Reps.one (show Kd.M (Kd.int .i64) _ _ _ a2 [.int .i64 a2] from rfl) (Reps.none _ _))))))
    intro v236 w22 ho23 hb hg_ hnew_
    clear hg_ hnew_
    (first | rw [← Ny235.out] at ho23 | (simp only [Int.reduceToNat] at ho23; rw [← Ny235.out] at ho23))
    have n0_ := aM (Kd.R_lower ho23 (bZ (by repeat (first | (with_reducible first | exact HB.out | apply bA | apply pN | apply bD | refine bE ?_ GE223.out | refine bE ?_ GE226.out) | exact HB.out)))); have n1_ := aM (blk_below (g := gb223) (o := .cells #[.slice none 0 0, .slice none 0 0] 57 (0, 0)) (by apply_rules [BK223.out, kN, kD, kA]) hb); have n2_ := aM (blk_below (g := gb226) (o := .cells #[.int .i64 ((rd_T40 ((rd_T51 l0 0).f0) a1).f0), .int .i64 ((rd_T40 ((rd_T51 l0 0).f0) a1).f1), .int .i64 ((rd_T40 ((rd_T51 l0 0).f0) a1).f2)] 40 (0, 0)) (by apply_rules [BK226.out, kN, kD, kA]) hb); have n3_ := aM (bS (by repeat (first | (with_reducible first | exact HB.out | apply bA | apply pN | apply bD | refine bE ?_ GE223.out | refine bE ?_ GE226.out) | exact HB.out)) hb); clear BK223 BK226 HB; have HO237 := n0_; have BK223 := n1_; have BK226 := n2_; have HB := n3_; clear n0_ n1_ n2_ n3_ hb ho23
    refine hK.out _ _ ⟨(kC BK226.out 0).trans rfl, (kC BK226.out 1).trans rfl, (kC BK226.out 2).trans rfl, ((HB.out.cell (wL w _ hw227_0)).trans hw227_0), ((HB.out.cell (wL w _ hw227_1)).trans hw227_1), ((HB.out.cell (wL w _ hw227_2)).trans hw227_2), ((HB.out.cell (wL w _ hw228_0)).trans hw228_0)⟩ (fun hHeld => ?_)
    clear hK K
    refine norm_ (a' := ?_) ?_ ?_
    rotate_left
    ·show Act.put _ (some 32) _ = _
     simp only [Act.put, sI, sZ, sS, i64_w]
     rfl
    refine one_ (i := 9) (N := some 25) #[true, true, true, true, true, true, true, true, true, true, false, true, true, true, true, true, true, false, false, false] rfl rfl (one_of HT_.out (by kernel_rfl)) (by decide) (fun K hK => ?_)
    refine goes_ Try.func27 (by kernel_rfl) rfl #[.int .i64 ((rd_T40 ((rd_T51 l0 0).f0) a1).f0)] (by rfl) rfl rfl (by (try simp only [mA, mC, mN]); first | done | rfl | (simp only [lD, lT]; rfl)) ?_
    with_reducible refine (nat_Of.calls ((rd_T40 ((rd_T51 l0 0).f0) a1).f0) t229 _ A8.out).mono ?_
    rintro e w24 ⟨v230, rfl, ho0, hb⟩
    refine ⟨_, rfl, ?_⟩
    have n0_ := aM (rO (by apply_rules [HO237.out, rN, rD]) hb); have n1_ := aM (Kd.R_lower ho0 (bZ (by repeat (first | (with_reducible first | exact HB.out | apply bA | apply pN | apply bD | refine bE ?_ GE223.out | refine bE ?_ GE226.out) | exact HB.out)))); have n2_ := aM (blk_below (g := gb223) (o := .cells #[.slice none 0 0, .slice none 0 0] 57 (0, 0)) (by apply_rules [BK223.out, kN, kD, kA]) hb); have n3_ := aM (blk_below (g := gb226) (o := .cells #[.int .i64 ((rd_T40 ((rd_T51 l0 0).f0) a1).f0), .int .i64 ((rd_T40 ((rd_T51 l0 0).f0) a1).f1), .int .i64 ((rd_T40 ((rd_T51 l0 0).f0) a1).f2)] 40 (0, 0)) (by apply_rules [BK226.out, kN, kD, kA]) hb); have n4_ := aM (bS (by repeat (first | (with_reducible first | exact HB.out | apply bA | apply pN | apply bD | refine bE ?_ GE223.out | refine bE ?_ GE226.out) | exact HB.out)) hb); clear HO237 BK223 BK226 HB; have HO237 := n0_; have HO231 := n1_; have BK223 := n2_; have BK226 := n3_; have HB := n4_; clear n0_ n1_ n2_ n3_ n4_
    (try clear hb)
    (try clear hb2)
    (try clear hk)
    (try clear hi)
    (try clear ho0)
    obtain ⟨Ao25, co25, eo25⟩ := Kd.R_slice HO231.out
    (first | subst eo25 | (injection eo25 with f1_ f2_ f3_; have f4_ := f1_.symm; have f5_ := f3_.symm; clear f1_ f2_ f3_; subst f4_; subst f5_))
    refine hK.out _ _ ⟨(kC BK226.out 0).trans rfl, (kC BK226.out 1).trans rfl, (kC BK226.out 2).trans rfl, ((HB.out.cell (wL w _ hw227_0)).trans hw227_0), ((HB.out.cell (wL w _ hw227_1)).trans hw227_1), ((HB.out.cell (wL w _ hw227_2)).trans hw227_2), ((HB.out.cell (wL w _ hw228_0)).trans hw228_0)⟩ (fun hHeld => ?_)
    clear hK K
    refine norm_ (a' := ?_) ?_ ?_
    rotate_left
    ·show Act.put _ (some 25) _ = _
     simp only [Act.put, sI, sZ, sS, i64_w]
     rfl
    refine one_ (i := 10) (N := some 26) #[true, true, true, true, true, true, true, true, true, true, true, true, true, true, true, true, true, false, false, false] rfl rfl (one_of HT_.out (by kernel_rfl)) (by decide) (fun K hK => ?_)
    refine goes_ Try.func30 (by kernel_rfl) rfl #[.slice A228_0 (rd_L3 ((rd_T51 l0 0).f2) a1).length c228_0, .slice Ao25 t229.length co25] (by rfl) rfl rfl (by (try simp only [mA, mC, mN]); first | done | rfl | (simp only [lD, lT]; rfl)) ?_
    with_reducible refine (nat_Mul.calls k _ _ (rd_L3 ((rd_T51 l0 0).f2) a1) _ _ t229 t232 _ ?side1 ?side2 ?side3 ?side4 A9.out).mono ?_
    (case side1 => repeat (first | exact (Kd.C_below HR228_0.out HB.out) | (with_reducible refine cA ?_ _) | (with_reducible refine cN ?_ _) | (with_reducible refine cD ?_)))
    (case side2 => exact HC228_0.out)
    (case side3 => repeat (first | exact (rS HO231.out).2.2 | (with_reducible refine cA ?_ _) | (with_reducible refine cN ?_ _) | (with_reducible refine cD ?_)))
    (case side4 => exact (rS HO231.out).2.1)
    rintro e w26 ⟨v233, rfl, ho0, hb⟩
    refine ⟨_, rfl, ?_⟩
    have n0_ := aM (rO (by apply_rules [HO237.out, rN, rD]) hb); have n1_ := aM (rE (by apply_rules [HO231.out, rN, rD]) (rB ho0) hb); have n2_ := aM (Kd.R_lower (rW ho0 (rL (by apply_rules [HO231.out, rN, rD]))) (bZ (by repeat (first | (with_reducible first | exact HB.out | apply bA | apply pN | apply bD | refine bE ?_ GE223.out | refine bE ?_ GE226.out) | exact HB.out)))); have n3_ := aM (blk_below (g := gb223) (o := .cells #[.slice none 0 0, .slice none 0 0] 57 (0, 0)) (by apply_rules [BK223.out, kN, kD, kA]) hb); have n4_ := aM (blk_below (g := gb226) (o := .cells #[.int .i64 ((rd_T40 ((rd_T51 l0 0).f0) a1).f0), .int .i64 ((rd_T40 ((rd_T51 l0 0).f0) a1).f1), .int .i64 ((rd_T40 ((rd_T51 l0 0).f0) a1).f2)] 40 (0, 0)) (by apply_rules [BK226.out, kN, kD, kA]) hb); have n5_ := aM (bS (by repeat (first | (with_reducible first | exact HB.out | apply bA | apply pN | apply bD | refine bE ?_ GE223.out | refine bE ?_ GE226.out) | exact HB.out)) hb); clear HO237 HO231 BK223 BK226 HB; have HO237 := n0_; have HO231 := n1_; have HO234 := n2_; have BK223 := n3_; have BK226 := n4_; have HB := n5_; clear n0_ n1_ n2_ n3_ n4_ n5_
    (try clear hb)
    (try clear hb2)
    (try clear hk)
    (try clear hi)
    (try clear ho0)
    refine hK.out _ _ ⟨(kC BK226.out 0).trans rfl, (kC BK226.out 1).trans rfl, (kC BK226.out 2).trans rfl, ((HB.out.cell (wL w _ hw227_0)).trans hw227_0), ((HB.out.cell (wL w _ hw227_1)).trans hw227_1), ((HB.out.cell (wL w _ hw227_2)).trans hw227_2), ((HB.out.cell (wL w _ hw228_0)).trans hw228_0)⟩ (fun hHeld => ?_)
    clear hK K
    refine norm_ (a' := ?_) ?_ ?_
    rotate_left
    ·show Act.put _ (some 26) _ = _
     simp only [Act.put, sI, sZ, sS, i64_w]
     rfl
    exact norm_ (by simp only [putAll, Act.put, sI, sZ, sS]) (hCont (.slice Ao25 t229.length co25, v233, v236) _ ⟨hHeld, (by (with_reducible repeat (first | apply rN | apply rD)); exact Kd.R_mono HO231.out (fun _ hk => hk.2)), (by (with_reducible repeat (first | apply rN | apply rD)); exact Kd.R_mono HO234.out (fun _ hk => hk.2)), (by apply_rules [HO237.out, rN, rD]), (by apply_rules [BK223.out, kN, kD, kA]), (by apply_rules [BK226.out, kN, kD, kA]), (by repeat (first | (with_reducible first | exact HB.out | apply bA | apply pN | apply bD | refine bE ?_ GE223.out | refine bE ?_ GE226.out) | exact HB.out))⟩)
  rintro ⟨v230, v233, v236⟩ w27 ⟨hS_, h0_, h1_, h2_, h3_, h4_, h5_⟩
  have n0_ : Aside0 (Kd.R (Kd.int .u64) 65 w27 w.heap.size (fun k_ => some k_ ≠ (v233 : Value).ownBlock) v230 t229) := ⟨h0_⟩
  have n1_ : Aside0 (Kd.R (Kd.int .u64) 65 w27 w.heap.size (fun k_ => some k_ ≠ (v230 : Value).ownBlock) v233 t232) := ⟨h1_⟩
  have n2_ : Aside0 (Kd.R (Kd.int .i64) 3 w27 w.heap.size (fun _ => True) v236 y235) := ⟨h2_⟩
  have n3_ : Aside0 (w27.heap[gb223]? = some (.cells #[.slice none 0 0, .slice none 0 0] 57 (0, 0))) := ⟨h3_⟩
  have n4_ : Aside0 (w27.heap[gb226]? = some (.cells #[.int .i64 ((rd_T40 ((rd_T51 l0 0).f0) a1).f0), .int .i64 ((rd_T40 ((rd_T51 l0 0).f0) a1).f1), .int .i64 ((rd_T40 ((rd_T51 l0 0).f0) a1).f2)] 40 (0, 0))) := ⟨h4_⟩
  have n5_ : Aside0 (Below w.heap.size w w27) := ⟨h5_⟩
  clear BK223 BK226 HB h0_ h1_ h2_ h3_ h4_ h5_; have HO231 := n0_; have HO234 := n1_; have HO237 := n2_; have BK223 := n3_; have BK226 := n4_; have HB := n5_; clear n0_ n1_ n2_ n3_ n4_ n5_
  have hHeld : w27.cell? ⟨gb226, 0, none⟩ = some (.int .i64 ((rd_T40 ((rd_T51 l0 0).f0) a1).f0)) ∧ w27.cell? ⟨gb226, 1, none⟩ = some (.int .i64 ((rd_T40 ((rd_T51 l0 0).f0) a1).f1)) ∧ w27.cell? ⟨gb226, 2, none⟩ = some (.int .i64 ((rd_T40 ((rd_T51 l0 0).f0) a1).f2)) ∧ w27.cell? ad224 = some (.slice A227_0 ((rd_T51 l0 0).f0).length c227_0) ∧ w27.cell? ⟨ad224.block, ad224.off + 1, none⟩ = some (.slice A227_1 ((rd_T51 l0 0).f1).length c227_1) ∧ w27.cell? ⟨ad224.block, ad224.off + 2, none⟩ = some (.slice (some ad228) ((rd_T51 l0 0).f2).length c227_2) ∧ w27.cell? (ad228.add (a1).toNat) = some (.slice A228_0 (rd_L3 ((rd_T51 l0 0).f2) a1).length c228_0) := hS_
  obtain ⟨Ao28, co28, eo28⟩ := Kd.R_slice HO237.out
  (first | subst eo28 | (injection eo28 with f1_ f2_ f3_; have f4_ := f1_.symm; have f5_ := f3_.symm; clear f1_ f2_ f3_; subst f4_; subst f5_))
  refine norm_ (a' := ?_) ?_ ?_
  rotate_left
  ·simp only [putAll, Act.put, sI, sZ, sS]
   rfl
  refine one_ (i := 17) (N := some 33) #[true, true, true, true, true, true, true, true, true, true, true, true, true, true, true, true, true, true, false, false] rfl rfl (one_of HT_.out (by kernel_rfl)) (by decide) (fun K hK => ?_)
  refine goes_ Try.func21 (by kernel_rfl) rfl #[.slice Ao28 y235.length co28] (by rfl) rfl rfl (by (try simp only [mA, mC, mN]); first | done | rfl | (simp only [lD, lT]; rfl)) ?_
  with_reducible refine (load_product.calls k _ _ y235 t238 _ ?side1 ?side2 A10.out).mono ?_
  (case side1 => repeat (first | exact (rS HO237.out).2.2 | (with_reducible refine cA ?_ _) | (with_reducible refine cN ?_ _) | (with_reducible refine cD ?_)))
  (case side2 => exact (rS HO237.out).2.1)
  rintro e w29 ⟨v239, rfl, ho0, hb⟩
  refine ⟨_, rfl, ?_⟩
  have n0_ := aM (rE (by apply_rules [HO231.out, rN, rD]) (rB ho0) hb); have n1_ := aM (rE (by apply_rules [HO234.out, rN, rD]) (rB ho0) hb); have n2_ := aM (rO (by apply_rules [HO237.out, rN, rD]) hb); have n3_ := aM (Kd.R_lower (rW (rW ho0 (rL (by apply_rules [HO231.out, rN, rD]))) (rL (by apply_rules [HO234.out, rN, rD]))) (bZ (by repeat (first | (with_reducible first | exact HB.out | apply bA | apply pN | apply bD | refine bE ?_ GE223.out | refine bE ?_ GE226.out) | exact HB.out)))); have n4_ := aM (blk_below (g := gb223) (o := .cells #[.slice none 0 0, .slice none 0 0] 57 (0, 0)) (by apply_rules [BK223.out, kN, kD, kA]) hb); have n5_ := aM (blk_below (g := gb226) (o := .cells #[.int .i64 ((rd_T40 ((rd_T51 l0 0).f0) a1).f0), .int .i64 ((rd_T40 ((rd_T51 l0 0).f0) a1).f1), .int .i64 ((rd_T40 ((rd_T51 l0 0).f0) a1).f2)] 40 (0, 0)) (by apply_rules [BK226.out, kN, kD, kA]) hb); have n6_ := aM (bS (by repeat (first | (with_reducible first | exact HB.out | apply bA | apply pN | apply bD | refine bE ?_ GE223.out | refine bE ?_ GE226.out) | exact HB.out)) hb); clear HO231 HO234 HO237 BK223 BK226 HB; have HO231 := n0_; have HO234 := n1_; have HO237 := n2_; have HO240 := n3_; have BK223 := n4_; have BK226 := n5_; have HB := n6_; clear n0_ n1_ n2_ n3_ n4_ n5_ n6_
  (try clear hb)
  (try clear hb2)
  (try clear hk)
  (try clear hi)
  (try clear ho0)
  obtain ⟨Ao30, co30, eo30⟩ := Kd.R_slice HO234.out
  (first | subst eo30 | (injection eo30 with f1_ f2_ f3_; have f4_ := f1_.symm; have f5_ := f3_.symm; clear f1_ f2_ f3_; subst f4_; subst f5_))
  obtain ⟨Ao31, co31, eo31⟩ := Kd.R_slice HO240.out
  (first | subst eo31 | (injection eo31 with f1_ f2_ f3_; have f4_ := f1_.symm; have f5_ := f3_.symm; clear f1_ f2_ f3_; subst f4_; subst f5_))
  refine hK.out _ _ ⟨(kC BK226.out 0).trans rfl, (kC BK226.out 1).trans rfl, (kC BK226.out 2).trans rfl, ((HB.out.cell (wL w _ hw227_0)).trans hw227_0), ((HB.out.cell (wL w _ hw227_1)).trans hw227_1), ((HB.out.cell (wL w _ hw227_2)).trans hw227_2), ((HB.out.cell (wL w _ hw228_0)).trans hw228_0)⟩ (fun hHeld => ?_)
  clear hK K
  refine norm_ (a' := ?_) ?_ ?_
  rotate_left
  ·show Act.put _ (some 33) _ = _
   simp only [Act.put, sI, sZ, sS, i64_w]
   rfl
  refine one_ (i := 18) (N := some 34) #[true, true, true, true, true, true, true, true, true, true, true, true, true, true, true, true, true, true, true, false] rfl rfl (one_of HT_.out (by kernel_rfl)) (by decide) (fun K hK => ?_)
  refine goes_ Try.func20 (by kernel_rfl) rfl #[.slice Ao30 t232.length co30, .slice Ao31 t238.length co31] (by rfl) rfl rfl (by (try simp only [mA, mC, mN]); first | done | rfl | (simp only [lD, lT]; rfl)) ?_
  with_reducible refine (nat_Add.calls k _ _ t232 _ _ t238 t241 _ ?side1 ?side2 ?side3 ?side4 A11.out).mono ?_
  (case side1 => repeat (first | exact (rS HO234.out).2.2 | (with_reducible refine cA ?_ _) | (with_reducible refine cN ?_ _) | (with_reducible refine cD ?_)))
  (case side2 => exact (rS HO234.out).2.1)
  (case side3 => repeat (first | exact (rS HO240.out).2.2 | (with_reducible refine cA ?_ _) | (with_reducible refine cN ?_ _) | (with_reducible refine cD ?_)))
  (case side4 => exact (rS HO240.out).2.1)
  rintro e w32 ⟨v242, rfl, ho0, hb⟩
  refine ⟨_, rfl, ?_⟩
  have n0_ := aM (rE (by apply_rules [HO231.out, rN, rD]) (rB ho0) hb); have n1_ := aM (rE (by apply_rules [HO234.out, rN, rD]) (rB ho0) hb); have n2_ := aM (rO (by apply_rules [HO237.out, rN, rD]) hb); have n3_ := aM (rE (by apply_rules [HO240.out, rN, rD]) (rB ho0) hb); have n4_ := aM (Kd.R_lower (rW (rW (rW ho0 (rL (by apply_rules [HO231.out, rN, rD]))) (rL (by apply_rules [HO234.out, rN, rD]))) (rL (by apply_rules [HO240.out, rN, rD]))) (bZ (by repeat (first | (with_reducible first | exact HB.out | apply bA | apply pN | apply bD | refine bE ?_ GE223.out | refine bE ?_ GE226.out) | exact HB.out)))); have n5_ := aM (blk_below (g := gb223) (o := .cells #[.slice none 0 0, .slice none 0 0] 57 (0, 0)) (by apply_rules [BK223.out, kN, kD, kA]) hb); have n6_ := aM (blk_below (g := gb226) (o := .cells #[.int .i64 ((rd_T40 ((rd_T51 l0 0).f0) a1).f0), .int .i64 ((rd_T40 ((rd_T51 l0 0).f0) a1).f1), .int .i64 ((rd_T40 ((rd_T51 l0 0).f0) a1).f2)] 40 (0, 0)) (by apply_rules [BK226.out, kN, kD, kA]) hb); have n7_ := aM (bS (by repeat (first | (with_reducible first | exact HB.out | apply bA | apply pN | apply bD | refine bE ?_ GE223.out | refine bE ?_ GE226.out) | exact HB.out)) hb); clear HO231 HO234 HO237 HO240 BK223 BK226 HB; have HO231 := n0_; have HO234 := n1_; have HO237 := n2_; have HO240 := n3_; have HO243 := n4_; have BK223 := n5_; have BK226 := n6_; have HB := n7_; clear n0_ n1_ n2_ n3_ n4_ n5_ n6_ n7_
  (try clear hb)
  (try clear hb2)
  (try clear hk)
  (try clear hi)
  (try clear ho0)
  refine hK.out _ _ ⟨(kC BK226.out 0).trans rfl, (kC BK226.out 1).trans rfl, (kC BK226.out 2).trans rfl, ((HB.out.cell (wL w _ hw227_0)).trans hw227_0), ((HB.out.cell (wL w _ hw227_1)).trans hw227_1), ((HB.out.cell (wL w _ hw227_2)).trans hw227_2), ((HB.out.cell (wL w _ hw228_0)).trans hw228_0)⟩ (fun hHeld => ?_)
  clear hK K
  refine norm_ (a' := ?_) ?_ ?_
  rotate_left
  ·show Act.put _ (some 34) _ = _
   simp only [Act.put, sI, sZ, sS, i64_w]
   rfl
  refine pure_ (i := 19) (N := some 8) (v := ?_) (a' := ?_) #[true, true, true, true, true, true, true, true, true, true, true, true, true, true, true, true, true, true, true, true] rfl rfl (any_of HT_.out (by kernel_rfl)) (fun _ _ _ h => h) (Or.inl ⟨by rfl, ?_⟩) ?_ ?_
  rotate_left
  ·intro w'
   go_simp
   with_reducible rfl
  rotate_left
  ·simp only [Act.put, sI, sZ, sS, i64_w]
   rfl
  refine done_ (done_of HT_.out (by kernel_rfl)) ?_
  have hcz33_0 : w32.cell? ⟨gb226, 0, none⟩ = some (.int .i64 ((rd_T40 ((rd_T51 l0 0).f0) a1).f0)) := (kC BK226.out 0).trans rfl
  have hcz33_1 : w32.cell? ⟨gb226, 1, none⟩ = some (.int .i64 ((rd_T40 ((rd_T51 l0 0).f0) a1).f1)) := (kC BK226.out 1).trans rfl
  have hcz33_2 : w32.cell? ⟨gb226, 2, none⟩ = some (.int .i64 ((rd_T40 ((rd_T51 l0 0).f0) a1).f2)) := (kC BK226.out 2).trans rfl
  have hfz33_0 := blk_frozen BK226.out 0
  have hfz33_1 := blk_frozen BK226.out 1
  have hfz33_2 := blk_frozen BK226.out 2
  try go_wp2_with (first | ((with_reducible refine gate_dst (N := 48) rfl ?_); refine Kd.R_lit (Kd.int .i64) _ 3 ?hg (N := 48) ?hd (xs := ([wrap64 (((rd_T40 ((rd_T51 l0 0).f0) a1).f2) - ((rd_T40 ((rd_T51 l0 0).f0) a1).f1)), a2, a2] : List Int)) (inner := [.int .i64 (wrap64 (((rd_T40 ((rd_T51 l0 0).f0) a1).f2) - ((rd_T40 ((rd_T51 l0 0).f0) a1).f1))), .int .i64 a2, .int .i64 a2]) (ok := fun _ => True) (okp := fun _ => True) ?hr ?hp (fun _ hk => hk) trivial (Below.refl _ _) (Nat.le_refl _) (by simp) ?_; (case hd => rfl); (case hg => rfl); (case hr => first | (go_simp; done) | (go_simp; rfl)); (case hp => exact (Reps.one (show Kd.M (Kd.int .i64) _ _ _ (wrap64 (((rd_T40 ((rd_T51 l0 0).f0) a1).f2) - ((rd_T40 ((rd_T51 l0 0).f0) a1).f1))) [.int .i64 (wrap64 (((rd_T40 ((rd_T51 l0 0).f0) a1).f2) - ((rd_T40 ((rd_T51 l0 0).f0) a1).f1)))] from rfl) (Reps.one (show Kd.M (Kd.int .i64) _ _ _ a2 [.int .i64 a2] from rfl) (Reps.one (show Kd.M (Kd.int .i64) _ _ _ a2 [.int .i64 a2] from rfl) (Reps.none _ _))))); intro v245 w34 ho35 hb hg_ hnew_; clear hg_ hnew_; (first | rw [← Ny244.out] at ho35 | (simp only [Int.reduceToNat] at ho35; rw [← Ny244.out] at ho35)); have n0_ := aM (rO (by apply_rules [HO231.out, rN, rD]) hb); have n1_ := aM (rO (by apply_rules [HO234.out, rN, rD]) hb); have n2_ := aM (rE (by apply_rules [HO237.out, rN, rD]) (rB ho35) hb); have n3_ := aM (rO (by apply_rules [HO240.out, rN, rD]) hb); have n4_ := aM (rO (by apply_rules [HO243.out, rN, rD]) hb); have n5_ := aM (Kd.R_lower (rW ho35 (rL (by apply_rules [HO237.out, rN, rD]))) (bZ (by repeat (first | (with_reducible first | exact HB.out | apply bA | apply pN | apply bD | refine bE ?_ GE223.out | refine bE ?_ GE226.out) | exact HB.out)))); have n6_ := aM (blk_below (g := gb223) (o := .cells #[.slice none 0 0, .slice none 0 0] 57 (0, 0)) (by apply_rules [BK223.out, kN, kD, kA]) hb); have n7_ := aM (blk_below (g := gb226) (o := .cells #[.int .i64 ((rd_T40 ((rd_T51 l0 0).f0) a1).f0), .int .i64 ((rd_T40 ((rd_T51 l0 0).f0) a1).f1), .int .i64 ((rd_T40 ((rd_T51 l0 0).f0) a1).f2)] 40 (0, 0)) (by apply_rules [BK226.out, kN, kD, kA]) hb); have n8_ := aM (bS (by repeat (first | (with_reducible first | exact HB.out | apply bA | apply pN | apply bD | refine bE ?_ GE223.out | refine bE ?_ GE226.out) | exact HB.out)) hb); clear HO231 HO234 HO237 HO240 HO243 BK223 BK226 HB; have HO231 := n0_; have HO234 := n1_; have HO237 := n2_; have HO240 := n3_; have HO243 := n4_; have HO246 := n5_; have BK223 := n6_; have BK226 := n7_; have HB := n8_; clear n0_ n1_ n2_ n3_ n4_ n5_ n6_ n7_ n8_ hb ho35; obtain ⟨Ao36, co36, eo36⟩ := Kd.R_slice HO246.out; subst eo36) | ((with_reducible refine gC (f := 21) rfl ?_); refine gL (some 49) rfl rfl Try.func21 (by kernel_rfl) rfl #[.slice Ao36 y244.length co36] rfl (by (try simp only [mA, mC, mN]); first | done | rfl | (simp only [lD, lT]; rfl)) ?_; (with_reducible refine (load_product.calls k _ _ y244 t247 _ ?side1 ?side2 A13.out).mono ?_); (case side1 => repeat (first | exact (rS HO246.out).2.2 | (with_reducible refine cA ?_ _) | (with_reducible refine cN ?_ _) | (with_reducible refine cD ?_))); (case side2 => exact (rS HO246.out).2.1); rintro e w37 ⟨v248, rfl, ho0, hb⟩; refine ⟨_, rfl, ?_⟩; have n0_ := aM (rE (by apply_rules [HO231.out, rN, rD]) (rB ho0) hb); have n1_ := aM (rE (by apply_rules [HO234.out, rN, rD]) (rB ho0) hb); have n2_ := aM (rO (by apply_rules [HO237.out, rN, rD]) hb); have n3_ := aM (rE (by apply_rules [HO240.out, rN, rD]) (rB ho0) hb); have n4_ := aM (rE (by apply_rules [HO243.out, rN, rD]) (rB ho0) hb); have n5_ := aM (rO (by apply_rules [HO246.out, rN, rD]) hb); have n6_ := aM (Kd.R_lower (rW (rW (rW (rW ho0 (rL (by apply_rules [HO231.out, rN, rD]))) (rL (by apply_rules [HO234.out, rN, rD]))) (rL (by apply_rules [HO240.out, rN, rD]))) (rL (by apply_rules [HO243.out, rN, rD]))) (bZ (by repeat (first | (with_reducible first | exact HB.out | apply bA | apply pN | apply bD | refine bE ?_ GE223.out | refine bE ?_ GE226.out) | exact HB.out)))); have n7_ := aM (blk_below (g := gb223) (o := .cells #[.slice none 0 0, .slice none 0 0] 57 (0, 0)) (by apply_rules [BK223.out, kN, kD, kA]) hb); have n8_ := aM (blk_below (g := gb226) (o := .cells #[.int .i64 ((rd_T40 ((rd_T51 l0 0).f0) a1).f0), .int .i64 ((rd_T40 ((rd_T51 l0 0).f0) a1).f1), .int .i64 ((rd_T40 ((rd_T51 l0 0).f0) a1).f2)] 40 (0, 0)) (by apply_rules [BK226.out, kN, kD, kA]) hb); have n9_ := aM (bS (by repeat (first | (with_reducible first | exact HB.out | apply bA | apply pN | apply bD | refine bE ?_ GE223.out | refine bE ?_ GE226.out) | exact HB.out)) hb); clear HO231 HO234 HO237 HO240 HO243 HO246 BK223 BK226 HB; have HO231 := n0_; have HO234 := n1_; have HO237 := n2_; have HO240 := n3_; have HO243 := n4_; have HO246 := n5_; have HO249 := n6_; have BK223 := n7_; have BK226 := n8_; have HB := n9_; clear n0_ n1_ n2_ n3_ n4_ n5_ n6_ n7_ n8_ n9_; (try clear hb); (try clear hb2); (try clear hk); (try clear hi); (try clear ho0); obtain ⟨Ao38, co38, eo38⟩ := Kd.R_slice HO243.out; subst eo38; obtain ⟨Ao39, co39, eo39⟩ := Kd.R_slice HO249.out; subst eo39) | ((with_reducible refine gC (f := 20) rfl ?_); refine gL (some 50) rfl rfl Try.func20 (by kernel_rfl) rfl #[.slice Ao38 t241.length co38, .slice Ao39 t247.length co39] rfl (by (try simp only [mA, mC, mN]); first | done | rfl | (simp only [lD, lT]; rfl)) ?_; (with_reducible refine (nat_Add.calls k _ _ t241 _ _ t247 t250 _ ?side1 ?side2 ?side3 ?side4 A14.out).mono ?_); (case side1 => repeat (first | exact (rS HO243.out).2.2 | (with_reducible refine cA ?_ _) | (with_reducible refine cN ?_ _) | (with_reducible refine cD ?_))); (case side2 => exact (rS HO243.out).2.1); (case side3 => repeat (first | exact (rS HO249.out).2.2 | (with_reducible refine cA ?_ _) | (with_reducible refine cN ?_ _) | (with_reducible refine cD ?_))); (case side4 => exact (rS HO249.out).2.1); rintro e w40 ⟨v251, rfl, ho0, hb⟩; refine ⟨_, rfl, ?_⟩; have n0_ := aM (rE (by apply_rules [HO231.out, rN, rD]) (rB ho0) hb); have n1_ := aM (rE (by apply_rules [HO234.out, rN, rD]) (rB ho0) hb); have n2_ := aM (rO (by apply_rules [HO237.out, rN, rD]) hb); have n3_ := aM (rE (by apply_rules [HO240.out, rN, rD]) (rB ho0) hb); have n4_ := aM (rE (by apply_rules [HO243.out, rN, rD]) (rB ho0) hb); have n5_ := aM (rO (by apply_rules [HO246.out, rN, rD]) hb); have n6_ := aM (rE (by apply_rules [HO249.out, rN, rD]) (rB ho0) hb); have n7_ := aM (Kd.R_lower (rW (rW (rW (rW (rW ho0 (rL (by apply_rules [HO231.out, rN, rD]))) (rL (by apply_rules [HO234.out, rN, rD]))) (rL (by apply_rules [HO240.out, rN, rD]))) (rL (by apply_rules [HO243.out, rN, rD]))) (rL (by apply_rules [HO249.out, rN, rD]))) (bZ (by repeat (first | (with_reducible first | exact HB.out | apply bA | apply pN | apply bD | refine bE ?_ GE223.out | refine bE ?_ GE226.out) | exact HB.out)))); have n8_ := aM (blk_below (g := gb223) (o := .cells #[.slice none 0 0, .slice none 0 0] 57 (0, 0)) (by apply_rules [BK223.out, kN, kD, kA]) hb); have n9_ := aM (blk_below (g := gb226) (o := .cells #[.int .i64 ((rd_T40 ((rd_T51 l0 0).f0) a1).f0), .int .i64 ((rd_T40 ((rd_T51 l0 0).f0) a1).f1), .int .i64 ((rd_T40 ((rd_T51 l0 0).f0) a1).f2)] 40 (0, 0)) (by apply_rules [BK226.out, kN, kD, kA]) hb); have n10_ := aM (bS (by repeat (first | (with_reducible first | exact HB.out | apply bA | apply pN | apply bD | refine bE ?_ GE223.out | refine bE ?_ GE226.out) | exact HB.out)) hb); clear HO231 HO234 HO237 HO240 HO243 HO246 HO249 BK223 BK226 HB; have HO231 := n0_; have HO234 := n1_; have HO237 := n2_; have HO240 := n3_; have HO243 := n4_; have HO246 := n5_; have HO249 := n6_; have HO252 := n7_; have BK223 := n8_; have BK226 := n9_; have HB := n10_; clear n0_ n1_ n2_ n3_ n4_ n5_ n6_ n7_ n8_ n9_ n10_; (try clear hb); (try clear hb2); (try clear hk); (try clear hi); (try clear ho0); have hcz41_0 : w40.cell? ⟨gb226, 0, none⟩ = some (.int .i64 ((rd_T40 ((rd_T51 l0 0).f0) a1).f0)) := (kC BK226.out 0).trans rfl; have hcz41_1 : w40.cell? ⟨gb226, 1, none⟩ = some (.int .i64 ((rd_T40 ((rd_T51 l0 0).f0) a1).f1)) := (kC BK226.out 1).trans rfl; have hcz41_2 : w40.cell? ⟨gb226, 2, none⟩ = some (.int .i64 ((rd_T40 ((rd_T51 l0 0).f0) a1).f2)) := (kC BK226.out 2).trans rfl; have hfz41_0 := blk_frozen BK226.out 0; have hfz41_1 := blk_frozen BK226.out 1; have hfz41_2 := blk_frozen BK226.out 2) | ((with_reducible refine gate_dst (N := 65) rfl ?_); refine Kd.R_lit (Kd.int .i64) _ 3 ?hg (N := 65) ?hd (xs := ([2, (rd_T40 ((rd_T51 l0 0).f0) a1).f0, 1000000000] : List Int)) (inner := [.int .i64 2, .int .i64 ((rd_T40 ((rd_T51 l0 0).f0) a1).f0), .int .i64 1000000000]) (ok := fun _ => True) (okp := fun _ => True) ?hr ?hp (fun _ hk => hk) trivial (Below.refl _ _) (Nat.le_refl _) (by simp) ?_; (case hd => rfl); (case hg => rfl); (case hr => first | (go_simp; done) | (go_simp; rfl)); (case hp => exact (Reps.one (show Kd.M (Kd.int .i64) _ _ _ 2 [.int .i64 2] from rfl) (Reps.one (show Kd.M (Kd.int .i64) _ _ _ ((rd_T40 ((rd_T51 l0 0).f0) a1).f0) [.int .i64 ((rd_T40 ((rd_T51 l0 0).f0) a1).f0)] from rfl) (Reps.one (show Kd.M (Kd.int .i64) _ _ _ 1000000000 [.int .i64 1000000000] from rfl) (Reps.none _ _))))); intro v254 w42 ho43 hb hg_ hnew_; clear hg_ hnew_; (first | rw [← Ny253.out] at ho43 | (simp only [Int.reduceToNat] at ho43; rw [← Ny253.out] at ho43)); have n0_ := aM (rO (by apply_rules [HO231.out, rN, rD]) hb); have n1_ := aM (rO (by apply_rules [HO234.out, rN, rD]) hb); have n2_ := aM (rE (by apply_rules [HO237.out, rN, rD]) (rB ho43) hb); have n3_ := aM (rO (by apply_rules [HO240.out, rN, rD]) hb); have n4_ := aM (rO (by apply_rules [HO243.out, rN, rD]) hb); have n5_ := aM (rE (by apply_rules [HO246.out, rN, rD]) (rB ho43) hb); have n6_ := aM (rO (by apply_rules [HO249.out, rN, rD]) hb); have n7_ := aM (rO (by apply_rules [HO252.out, rN, rD]) hb); have n8_ := aM (Kd.R_lower (rW (rW ho43 (rL (by apply_rules [HO237.out, rN, rD]))) (rL (by apply_rules [HO246.out, rN, rD]))) (bZ (by repeat (first | (with_reducible first | exact HB.out | apply bA | apply pN | apply bD | refine bE ?_ GE223.out | refine bE ?_ GE226.out) | exact HB.out)))); have n9_ := aM (blk_below (g := gb223) (o := .cells #[.slice none 0 0, .slice none 0 0] 57 (0, 0)) (by apply_rules [BK223.out, kN, kD, kA]) hb); have n10_ := aM (blk_below (g := gb226) (o := .cells #[.int .i64 ((rd_T40 ((rd_T51 l0 0).f0) a1).f0), .int .i64 ((rd_T40 ((rd_T51 l0 0).f0) a1).f1), .int .i64 ((rd_T40 ((rd_T51 l0 0).f0) a1).f2)] 40 (0, 0)) (by apply_rules [BK226.out, kN, kD, kA]) hb); have n11_ := aM (bS (by repeat (first | (with_reducible first | exact HB.out | apply bA | apply pN | apply bD | refine bE ?_ GE223.out | refine bE ?_ GE226.out) | exact HB.out)) hb); clear HO231 HO234 HO237 HO240 HO243 HO246 HO249 HO252 BK223 BK226 HB; have HO231 := n0_; have HO234 := n1_; have HO237 := n2_; have HO240 := n3_; have HO243 := n4_; have HO246 := n5_; have HO249 := n6_; have HO252 := n7_; have HO255 := n8_; have BK223 := n9_; have BK226 := n10_; have HB := n11_; clear n0_ n1_ n2_ n3_ n4_ n5_ n6_ n7_ n8_ n9_ n10_ n11_ hb ho43; obtain ⟨Ao44, co44, eo44⟩ := Kd.R_slice HO255.out; subst eo44) | ((with_reducible refine gC (f := 21) rfl ?_); refine gL (some 66) rfl rfl Try.func21 (by kernel_rfl) rfl #[.slice Ao44 y253.length co44] rfl (by (try simp only [mA, mC, mN]); first | done | rfl | (simp only [lD, lT]; rfl)) ?_; (with_reducible refine (load_product.calls k _ _ y253 t256 _ ?side1 ?side2 A15.out).mono ?_); (case side1 => repeat (first | exact (rS HO255.out).2.2 | (with_reducible refine cA ?_ _) | (with_reducible refine cN ?_ _) | (with_reducible refine cD ?_))); (case side2 => exact (rS HO255.out).2.1); rintro e w45 ⟨v257, rfl, ho0, hb⟩; refine ⟨_, rfl, ?_⟩; have n0_ := aM (rE (by apply_rules [HO231.out, rN, rD]) (rB ho0) hb); have n1_ := aM (rE (by apply_rules [HO234.out, rN, rD]) (rB ho0) hb); have n2_ := aM (rO (by apply_rules [HO237.out, rN, rD]) hb); have n3_ := aM (rE (by apply_rules [HO240.out, rN, rD]) (rB ho0) hb); have n4_ := aM (rE (by apply_rules [HO243.out, rN, rD]) (rB ho0) hb); have n5_ := aM (rO (by apply_rules [HO246.out, rN, rD]) hb); have n6_ := aM (rE (by apply_rules [HO249.out, rN, rD]) (rB ho0) hb); have n7_ := aM (rE (by apply_rules [HO252.out, rN, rD]) (rB ho0) hb); have n8_ := aM (rO (by apply_rules [HO255.out, rN, rD]) hb); have n9_ := aM (Kd.R_lower (rW (rW (rW (rW (rW (rW ho0 (rL (by apply_rules [HO231.out, rN, rD]))) (rL (by apply_rules [HO234.out, rN, rD]))) (rL (by apply_rules [HO240.out, rN, rD]))) (rL (by apply_rules [HO243.out, rN, rD]))) (rL (by apply_rules [HO249.out, rN, rD]))) (rL (by apply_rules [HO252.out, rN, rD]))) (bZ (by repeat (first | (with_reducible first | exact HB.out | apply bA | apply pN | apply bD | refine bE ?_ GE223.out | refine bE ?_ GE226.out) | exact HB.out)))); have n10_ := aM (blk_below (g := gb223) (o := .cells #[.slice none 0 0, .slice none 0 0] 57 (0, 0)) (by apply_rules [BK223.out, kN, kD, kA]) hb); have n11_ := aM (blk_below (g := gb226) (o := .cells #[.int .i64 ((rd_T40 ((rd_T51 l0 0).f0) a1).f0), .int .i64 ((rd_T40 ((rd_T51 l0 0).f0) a1).f1), .int .i64 ((rd_T40 ((rd_T51 l0 0).f0) a1).f2)] 40 (0, 0)) (by apply_rules [BK226.out, kN, kD, kA]) hb); have n12_ := aM (bS (by repeat (first | (with_reducible first | exact HB.out | apply bA | apply pN | apply bD | refine bE ?_ GE223.out | refine bE ?_ GE226.out) | exact HB.out)) hb); clear HO231 HO234 HO237 HO240 HO243 HO246 HO249 HO252 HO255 BK223 BK226 HB; have HO231 := n0_; have HO234 := n1_; have HO237 := n2_; have HO240 := n3_; have HO243 := n4_; have HO246 := n5_; have HO249 := n6_; have HO252 := n7_; have HO255 := n8_; have HO258 := n9_; have BK223 := n10_; have BK226 := n11_; have HB := n12_; clear n0_ n1_ n2_ n3_ n4_ n5_ n6_ n7_ n8_ n9_ n10_ n11_ n12_; (try clear hb); (try clear hb2); (try clear hk); (try clear hi); (try clear ho0); obtain ⟨Ao46, co46, eo46⟩ := Kd.R_slice HO258.out; subst eo46; obtain ⟨Ao47, co47, eo47⟩ := Kd.R_slice HO252.out; subst eo47; have hcz48_0 : w45.cell? ⟨gb223, 0, none⟩ = some (.slice none 0 0) := (kC BK223.out 0).trans rfl; have hcz48_1 : w45.cell? ⟨gb223, 1, none⟩ = some (.slice none 0 0) := (kC BK223.out 1).trans rfl; have hfz48_0 := blk_frozen BK223.out 0; have hfz48_1 := blk_frozen BK223.out 1))
  refine bodyPost_ret (results_cell_row rfl _ _ gb223 57 #[.slice Ao47 t250.length co47, .slice Ao46 t256.length co46] (0, 0) _ rfl (by (with_reducible repeat (first | refine kN ?_ _ | refine kD ?_ | refine kA ?_ _)); refine blk_put (cs := #[.slice Ao47 t250.length co47, .slice none 0 0]) ?_ 1 _ rfl; (with_reducible repeat (first | refine kN ?_ _ | refine kD ?_ | refine kA ?_ _)); refine blk_put (cs := #[.slice none 0 0, .slice none 0 0]) ?_ 0 _ rfl; (with_reducible repeat (first | refine kN ?_ _ | refine kD ?_ | refine kA ?_ _)); exact BK223.out) Try.underlying57 rfl (by kernel_rfl)) rfl ?_
  exact ⟨_, _, by first | rfl | (simp [errW_none, errW_some] <;> rfl) | (simp [*, errW_none, errW_some] <;> rfl), by (with_reducible repeat (first | apply rN | apply rD)); exact Kd.R_mono (Kd.R_far (p := ⟨gb223, 1, none⟩) (Kd.R_far (p := ⟨gb223, 0, none⟩) (Kd.R_types HO252.out BK223.out (by decide)) (fun _ hk => hk.2) (.slice Ao47 t250.length co47)) (fun _ hk => hk.2) (.slice Ao46 t256.length co46)) (fun _ hk => hk.1.2), by (with_reducible repeat (first | apply rN | apply rD)); exact Kd.R_mono (Kd.R_far (p := ⟨gb223, 1, none⟩) (Kd.R_far (p := ⟨gb223, 0, none⟩) (Kd.R_types HO258.out BK223.out (by decide)) (fun _ hk => hk.2) (.slice Ao47 t250.length co47)) (fun _ hk => hk.2) (.slice Ao46 t256.length co46)) (fun _ hk => hk.1.2), by repeat (first | (with_reducible first | exact HB.out | apply bA | apply pN | apply bD | refine bE ?_ GE223.out | refine bE ?_ GE226.out) | exact HB.out)⟩
 ·rw [if_neg c12] at H
  have c12b0 : decide (((rd_T40 ((rd_T51 l0 0).f0) a1).f1) ≤ ((rd_T40 ((rd_T51 l0 0).f0) a1).f2)) = false := decide_eq_false c12
  clear c12
  obtain ⟨y259, hy259⟩ : ∃ y_ : List Int, y_ = (([wrap64 (((rd_T40 ((rd_T51 l0 0).f0) a1).f1) - ((rd_T40 ((rd_T51 l0 0).f0) a1).f2)), a2, a2] : List Int)) := ⟨_, rfl⟩
  replace H : ((load_product.f k y259).bind fun t262 => ((nat_Sub.f k t241 t262).bind fun t265 => ((load_product.f k (([2, (rd_T40 ((rd_T51 l0 0).f0) a1).f0, 1000000000] : List Int))).bind fun t271 => (some (t265, t271))))) = some (r1, r2) := by first | (rw [hy259]; exact H) | exact H
  have Ny259 := aM hy259
  clear hy259
  replace H := oB H
  obtain ⟨t262, A490, H⟩ := H
  replace H : ((nat_Sub.f k t241 t262).bind fun t265 => ((load_product.f k (([2, (rd_T40 ((rd_T51 l0 0).f0) a1).f0, 1000000000] : List Int))).bind fun t271 => (some (t265, t271)))) = some (r1, r2) := H
  have A49 := aM A490; clear A490
  replace H := oB H
  obtain ⟨t265, A500, H⟩ := H
  replace H : ((load_product.f k (([2, (rd_T40 ((rd_T51 l0 0).f0) a1).f0, 1000000000] : List Int))).bind fun t271 => (some (t265, t271))) = some (r1, r2) := H
  have A50 := aM A500; clear A500
  obtain ⟨y268, hy268⟩ : ∃ y_ : List Int, y_ = (([2, (rd_T40 ((rd_T51 l0 0).f0) a1).f0, 1000000000] : List Int)) := ⟨_, rfl⟩
  replace H : ((load_product.f k y268).bind fun t271 => (some (t265, t271))) = some (r1, r2) := by first | (rw [hy268]; exact H) | exact H
  have Ny268 := aM hy268
  clear hy268
  replace H := oB H
  obtain ⟨t271, A510, H⟩ := H
  replace H : (some (t265, t271)) = some (r1, r2) := H
  have A51 := aM A510; clear A510
  simp only [Option.some.injEq, Prod.mk.injEq] at H
  obtain ⟨rfl, rfl⟩ := H
  go_enter Try.func32, Try.ntmps32
  try go_wp2_with (first | ((with_reducible refine gate_dst (N := 6) rfl ?_); refine box_event ?hg (N := 6) ?hd (cs := #[.slice none 0 0, .slice none 0 0]) (t := 57) ?hr ?_; (case hd => rfl); (case hg => rfl); (case hr => first | (go_simp; done) | (go_simp; rfl)); intro gb223 hg w52 hbox hb; have n0_ := aM (bS (by apply_rules [HB.out, bA, pN, bD]) hb); have n1_ := aM (hbox); have n2_ := aM ((by rw [hg]; exact (bZ (by apply_rules [HB.out, bA, pN, bD])) : w.heap.size ≤ gb223)); have n3_ := aM ((by rw [hg]; exact (bZ (by apply_rules [HB.out, bA, pN, bD])) : w.heap.size ≤ gb223)); clear HB; have HB := n0_; have BK223 := n1_; have GW223 := n2_; have GE223 := n3_; clear n0_ n1_ n2_ n3_ hb hbox hg; have p224 : 0 ≤ (0 : Int) := (by omega); have q224 : 0 < (l0.length : Int) := oD (by first | (with_reducible assumption) | assumption); obtain ⟨ad224, A224_0, c224_0, A224_1, c224_1, A224_2, c224_2, e224, hx224_0, hx224_1, hx224_2, hl224_0, hi224_0, hl224_1, hi224_1, hl224_2, hi224_2⟩ := at_T51 HR0.out 0 p224 q224; have hv224_0 := hx224_0; have hv224_1 := hx224_1; have hv224_2 := hx224_2; cases e224; have qi224 : (0 < l0.length) = True := eq_true (by omega); (try rw [show ((0 : Int)).toNat = 0 from rfl] at hx224_0); (try rw [show 0 * 3 = 0 from rfl] at hx224_0); (try rw [Addr.add_zero'] at hx224_0); (try rw [show ((0 : Int)).toNat = 0 from rfl] at hx224_1); (try rw [show 0 * 3 = 0 from rfl] at hx224_1); (try rw [Addr.add_zero'] at hx224_1); (try rw [show ((0 : Int)).toNat = 0 from rfl] at hx224_2); (try rw [show 0 * 3 = 0 from rfl] at hx224_2); (try rw [Addr.add_zero'] at hx224_2); replace hx224_0 := (HB.out.cell (wL w _ hx224_0)).trans hx224_0; replace hx224_1 := (HB.out.cell (wL w _ hx224_1)).trans hx224_1; replace hx224_2 := (HB.out.cell (wL w _ hx224_2)).trans hx224_2; have HR224_0 := aM hi224_0; have HC224_0 := aM hl224_0; clear hi224_0 hl224_0; have HR224_1 := aM hi224_1; have HC224_1 := aM hl224_1; clear hi224_1 hl224_1; have HR224_2 := aM hi224_2; have HC224_2 := aM hl224_2; clear hi224_2 hl224_2; replace p224 := eq_true p224; replace q224 := eq_true q224; have p225 : 0 ≤ (a1 : Int) := oD (by first | (with_reducible assumption) | assumption); have q225 : a1 < (((rd_T51 l0 0).f0).length : Int) := oD (by first | (with_reducible assumption) | assumption); obtain ⟨ad225, e225, hx225_0, hx225_1, hx225_2⟩ := at_T40 HR224_0.out a1 p225 q225; cases e225; replace hx225_0 := (HB.out.cell (wL w _ hx225_0)).trans hx225_0; replace hx225_1 := (HB.out.cell (wL w _ hx225_1)).trans hx225_1; replace hx225_2 := (HB.out.cell (wL w _ hx225_2)).trans hx225_2; replace p225 := eq_true p225; replace q225 := eq_true q225) | ((with_reducible refine gate_dst (N := 7) rfl ?_); refine box_event ?hg (N := 7) ?hd (cs := #[.int .i64 0, .int .i64 0, .int .i64 0]) (t := 40) ?hr ?_; (case hd => rfl); (case hg => rfl); (case hr => first | (go_simp; done) | (go_simp; rfl)); intro gb226 hg w53 hbox hb; have n0_ := aM (blk_below (g := gb223) (o := .cells #[.slice none 0 0, .slice none 0 0] 57 (0, 0)) (by apply_rules [BK223.out, kN, kD, kA]) hb); have n1_ := aM (bS (by repeat (first | (with_reducible first | exact HB.out | apply bA | apply pN | apply bD | refine bE ?_ GE223.out) | exact HB.out)) hb); have n2_ := aM (hbox); have n3_ := aM ((by rw [hg]; exact (bZ (by repeat (first | (with_reducible first | exact HB.out | apply bA | apply pN | apply bD | refine bE ?_ GE223.out) | exact HB.out))) : w.heap.size ≤ gb226)); have n4_ := aM ((by rw [hg]; exact (bZ (by repeat (first | (with_reducible first | exact HB.out | apply bA | apply pN | apply bD | refine bE ?_ GE223.out) | exact HB.out))) : w.heap.size ≤ gb226)); have n5_ := aM ((by rw [hg]; exact Nat.ne_of_lt (blk_lt (g := gb223) (o := .cells #[.slice none 0 0, .slice none 0 0] 57 (0, 0)) (by apply_rules [BK223.out, kN, kD, kA])) : gb223 ≠ gb226)); have n6_ := aM ((by rw [hg]; exact Nat.ne_of_gt (blk_lt (g := gb223) (o := .cells #[.slice none 0 0, .slice none 0 0] 57 (0, 0)) (by apply_rules [BK223.out, kN, kD, kA])) : gb226 ≠ gb223)); clear BK223 HB; have BK223 := n0_; have HB := n1_; have BK226 := n2_; have GW226 := n3_; have GE226 := n4_; have NB223_226 := n5_; have NB226_223 := n6_; clear n0_ n1_ n2_ n3_ n4_ n5_ n6_ hb hbox hg; have hnb54 := NB226_223.out; have hnc54 := NB223_226.out; have hcz55_0 : w53.cell? ⟨gb226, 0, none⟩ = some (.int .i64 0) := (kC BK226.out 0).trans rfl; have hcz55_1 : w53.cell? ⟨gb226, 1, none⟩ = some (.int .i64 0) := (kC BK226.out 1).trans rfl; have hcz55_2 : w53.cell? ⟨gb226, 2, none⟩ = some (.int .i64 0) := (kC BK226.out 2).trans rfl; have hfz55_0 := blk_frozen BK226.out 0; have hfz55_1 := blk_frozen BK226.out 1; have hfz55_2 := blk_frozen BK226.out 2))
  have n0_ : Aside0 ((((w53.setCell ⟨gb226, 0, none⟩ (.int .i64 ((rd_T40 ((rd_T51 l0 0).f0) a1).f0))).setCell ⟨gb226, 1, none⟩ (.int .i64 ((rd_T40 ((rd_T51 l0 0).f0) a1).f1))).setCell ⟨gb226, 2, none⟩ (.int .i64 ((rd_T40 ((rd_T51 l0 0).f0) a1).f2))).heap[gb223]? = some (.cells #[.slice none 0 0, .slice none 0 0] 57 (0, 0))) := ⟨by (with_reducible repeat (first | refine kN ?_ _ | refine kD ?_ | refine kA ?_ _)); refine blk_far ?_ NB223_226.out _; (with_reducible repeat (first | refine kN ?_ _ | refine kD ?_ | refine kA ?_ _)); refine blk_far ?_ NB223_226.out _; (with_reducible repeat (first | refine kN ?_ _ | refine kD ?_ | refine kA ?_ _)); refine blk_far ?_ NB223_226.out _; (with_reducible repeat (first | refine kN ?_ _ | refine kD ?_ | refine kA ?_ _)); exact BK223.out⟩
  have n1_ : Aside0 ((((w53.setCell ⟨gb226, 0, none⟩ (.int .i64 ((rd_T40 ((rd_T51 l0 0).f0) a1).f0))).setCell ⟨gb226, 1, none⟩ (.int .i64 ((rd_T40 ((rd_T51 l0 0).f0) a1).f1))).setCell ⟨gb226, 2, none⟩ (.int .i64 ((rd_T40 ((rd_T51 l0 0).f0) a1).f2))).heap[gb226]? = some (.cells #[.int .i64 ((rd_T40 ((rd_T51 l0 0).f0) a1).f0), .int .i64 ((rd_T40 ((rd_T51 l0 0).f0) a1).f1), .int .i64 ((rd_T40 ((rd_T51 l0 0).f0) a1).f2)] 40 (0, 0))) := ⟨by (with_reducible repeat (first | refine kN ?_ _ | refine kD ?_ | refine kA ?_ _)); refine blk_put (cs := #[.int .i64 ((rd_T40 ((rd_T51 l0 0).f0) a1).f0), .int .i64 ((rd_T40 ((rd_T51 l0 0).f0) a1).f1), .int .i64 0]) ?_ 2 _ rfl; (with_reducible repeat (first | refine kN ?_ _ | refine kD ?_ | refine kA ?_ _)); refine blk_put (cs := #[.int .i64 ((rd_T40 ((rd_T51 l0 0).f0) a1).f0), .int .i64 0, .int .i64 0]) ?_ 1 _ rfl; (with_reducible repeat (first | refine kN ?_ _ | refine kD ?_ | refine kA ?_ _)); refine blk_put (cs := #[.int .i64 0, .int .i64 0, .int .i64 0]) ?_ 0 _ rfl; (with_reducible repeat (first | refine kN ?_ _ | refine kD ?_ | refine kA ?_ _)); exact BK226.out⟩
  have n2_ : Aside0 (Below w.heap.size w (((w53.setCell ⟨gb226, 0, none⟩ (.int .i64 ((rd_T40 ((rd_T51 l0 0).f0) a1).f0))).setCell ⟨gb226, 1, none⟩ (.int .i64 ((rd_T40 ((rd_T51 l0 0).f0) a1).f1))).setCell ⟨gb226, 2, none⟩ (.int .i64 ((rd_T40 ((rd_T51 l0 0).f0) a1).f2)))) := ⟨by repeat (first | (with_reducible first | exact HB.out | apply bA | apply pN | apply bD | refine bE ?_ GE223.out | refine bE ?_ GE226.out) | exact HB.out)⟩
  (try clear BK223)
  (try clear BK226)
  (try clear HB)
  generalize (((w53.setCell ⟨gb226, 0, none⟩ (.int .i64 ((rd_T40 ((rd_T51 l0 0).f0) a1).f0))).setCell ⟨gb226, 1, none⟩ (.int .i64 ((rd_T40 ((rd_T51 l0 0).f0) a1).f1))).setCell ⟨gb226, 2, none⟩ (.int .i64 ((rd_T40 ((rd_T51 l0 0).f0) a1).f2))) = w56 at n0_ n1_ n2_ ⊢
  have BK223 := n0_; have BK226 := n1_; have HB := n2_; clear n0_ n1_ n2_; have n0_ := aM (kD BK223.out); have n1_ := aM (kD BK226.out); have n2_ := aM (bD HB.out); clear BK223 BK226 HB; have BK223 := n0_; have BK226 := n1_; have HB := n2_; clear n0_ n1_ n2_
  have p227 : 0 ≤ (0 : Int) := (by omega)
  have q227 : 0 < (l0.length : Int) := oD (by first | (with_reducible assumption) | assumption)
  obtain ⟨ad227, A227_0, c227_0, A227_1, c227_1, A227_2, c227_2, e227, hx227_0, hx227_1, hx227_2, hl227_0, hi227_0, hl227_1, hi227_1, hl227_2, hi227_2⟩ := at_T51 HR0.out 0 p227 q227
  have hw227_2 := hx227_2
  (try rw [show ((0 : Int)).toNat = 0 from rfl] at hw227_2)
  (try rw [show 0 * 3 = 0 from rfl] at hw227_2)
  (try rw [Addr.add_zero'] at hw227_2)
  have hw227_1 := hx227_1
  (try rw [show ((0 : Int)).toNat = 0 from rfl] at hw227_1)
  (try rw [show 0 * 3 = 0 from rfl] at hw227_1)
  (try rw [Addr.add_zero'] at hw227_1)
  have hw227_0 := hx227_0
  (try rw [show ((0 : Int)).toNat = 0 from rfl] at hw227_0)
  (try rw [show 0 * 3 = 0 from rfl] at hw227_0)
  (try rw [Addr.add_zero'] at hw227_0)
  have hv227_0 := hx227_0
  have hv227_1 := hx227_1
  have hv227_2 := hx227_2
  obtain rfl : ad224 = ad227 := (by injection e227)
  have qi227 : (0 < l0.length) = True := eq_true (by omega)
  (try rw [show ((0 : Int)).toNat = 0 from rfl] at hx227_0)
  (try rw [show 0 * 3 = 0 from rfl] at hx227_0)
  (try rw [Addr.add_zero'] at hx227_0)
  (try rw [show ((0 : Int)).toNat = 0 from rfl] at hx227_1)
  (try rw [show 0 * 3 = 0 from rfl] at hx227_1)
  (try rw [Addr.add_zero'] at hx227_1)
  (try rw [show ((0 : Int)).toNat = 0 from rfl] at hx227_2)
  (try rw [show 0 * 3 = 0 from rfl] at hx227_2)
  (try rw [Addr.add_zero'] at hx227_2)
  replace hx227_0 := (HB.out.cell (wL w _ hx227_0)).trans hx227_0
  replace hx227_1 := (HB.out.cell (wL w _ hx227_1)).trans hx227_1
  replace hx227_2 := (HB.out.cell (wL w _ hx227_2)).trans hx227_2
  have HR227_0 := aM hi227_0
  have HC227_0 := aM hl227_0
  clear hi227_0 hl227_0
  have HR227_1 := aM hi227_1
  have HC227_1 := aM hl227_1
  clear hi227_1 hl227_1
  have HR227_2 := aM hi227_2
  have HC227_2 := aM hl227_2
  clear hi227_2 hl227_2
  replace p227 := eq_true p227
  replace q227 := eq_true q227
  have p228 : 0 ≤ (a1 : Int) := oD (by first | (with_reducible assumption) | assumption)
  have q228 : a1 < (((rd_T51 l0 0).f2).length : Int) := oD (by first | (with_reducible assumption) | assumption)
  obtain ⟨ad228, A228_0, c228_0, e228, hx228_0, hl228_0, hi228_0⟩ := at_L3 HR227_2.out a1 p228 q228
  have hw228_0 := hx228_0
  have hv228_0 := hx228_0
  cases e228
  replace hx228_0 := (HB.out.cell (wL w _ hx228_0)).trans hx228_0
  have HR228_0 := aM hi228_0
  have HC228_0 := aM hl228_0
  clear hi228_0 hl228_0
  replace p228 := eq_true p228
  replace q228 := eq_true q228
  refine start_ (n := 20) (S := fun w' => w'.cell? ⟨gb226, 0, none⟩ = some (.int .i64 ((rd_T40 ((rd_T51 l0 0).f0) a1).f0)) ∧ w'.cell? ⟨gb226, 1, none⟩ = some (.int .i64 ((rd_T40 ((rd_T51 l0 0).f0) a1).f1)) ∧ w'.cell? ⟨gb226, 2, none⟩ = some (.int .i64 ((rd_T40 ((rd_T51 l0 0).f0) a1).f2)) ∧ w'.cell? ad224 = some (.slice A227_0 ((rd_T51 l0 0).f0).length c227_0) ∧ w'.cell? ⟨ad224.block, ad224.off + 1, none⟩ = some (.slice A227_1 ((rd_T51 l0 0).f1).length c227_1) ∧ w'.cell? ⟨ad224.block, ad224.off + 2, none⟩ = some (.slice (some ad228) ((rd_T51 l0 0).f2).length c227_2) ∧ w'.cell? (ad228.add (a1).toNat) = some (.slice A228_0 (rd_L3 ((rd_T51 l0 0).f2) a1).length c228_0)) (ds := []) #[false, false, false, false, false, false, false, false, false, false, false, false, false, false, false, false, false, false, false, false] (by kernel_rfl) rfl rfl ⟨(kC BK226.out 0).trans rfl, (kC BK226.out 1).trans rfl, (kC BK226.out 2).trans rfl, ((HB.out.cell (wL w _ hw227_0)).trans hw227_0), ((HB.out.cell (wL w _ hw227_1)).trans hw227_1), ((HB.out.cell (wL w _ hw227_2)).trans hw227_2), ((HB.out.cell (wL w _ hw228_0)).trans hw228_0)⟩ (fun hHeld => ?_); refine with_tabW load_line_area.tab2 load_line_area.bits2 (fun HT_ HW_ => ?_)
  generalize w56.drew = w57 at BK223 BK226 HB HR227_0 HR227_1 HR227_2 HR228_0 hx227_0 hx227_1 hx227_2 hx228_0 hHeld ⊢
  refine pure_ (i := 0) (N := some 16) (v := ?_) (a' := ?_) #[true, false, false, false, false, false, false, false, false, false, false, false, false, false, false, false, false, false, false, false] rfl rfl (any_of HT_.out (by kernel_rfl)) (fun _ _ _ h => h) (Or.inl ⟨by rfl, ?_⟩) ?_ ?_
  rotate_left
  ·intro w'
   go_simp
   with_reducible rfl
  rotate_left
  ·simp only [Act.put, sI, sZ, sS, i64_w]
   rfl
  refine pure_ (i := 1) (N := some 17) (v := ?_) (a' := ?_) #[true, true, false, false, false, false, false, false, false, false, false, false, false, false, false, false, false, false, false, false] rfl rfl (any_of HT_.out (by kernel_rfl)) (fun _ _ _ h => h) (Or.inl ⟨by rfl, ?_⟩) ?_ ?_
  rotate_left
  ·intro w'
   go_simp
   with_reducible rfl
  rotate_left
  ·simp only [Act.put, sI, sZ, sS, i64_w]
   rfl
  refine pure_ (i := 2) (N := some 18) (v := ?_) (a' := ?_) #[true, true, true, false, false, false, false, false, false, false, false, false, false, false, false, false, false, false, false, false] rfl rfl (any_of HT_.out (by kernel_rfl)) (fun _ _ _ h => h) (Or.inl ⟨by rfl, ?_⟩) ?_ ?_
  rotate_left
  ·intro w'
   go_simp
   with_reducible rfl
  rotate_left
  ·simp only [Act.put, sI, sZ, sS, i64_w]
   rfl
  refine pure_ (i := 4) (N := some 20) (v := ?_) (a' := ?_) #[true, true, true, false, true, false, false, false, false, false, false, false, false, false, false, false, false, false, false, false] rfl rfl (any_of HT_.out (by kernel_rfl)) (fun _ _ _ h => h) (Or.inl ⟨by rfl, ?_⟩) ?_ ?_
  rotate_left
  ·intro w'
   go_simp
   with_reducible rfl
  rotate_left
  ·simp only [Act.put, sI, sZ, sS, i64_w]
   rfl
  refine pure_ (i := 7) (N := some 23) (v := ?_) (a' := ?_) #[true, true, true, false, true, false, false, true, false, false, false, false, false, false, false, false, false, false, false, false] rfl rfl (any_of HT_.out (by kernel_rfl)) (fun _ _ _ h => h) (Or.inl ⟨by rfl, ?_⟩) ?_ ?_
  rotate_left
  ·intro w'
   go_simp
   with_reducible rfl
  rotate_left
  ·simp only [Act.put, sI, sZ, sS, i64_w]
   rfl
  refine pure_ (i := 11) (N := some 27) (v := ?_) (a' := ?_) #[true, true, true, false, true, false, false, true, false, false, false, true, false, false, false, false, false, false, false, false] rfl rfl (any_of HT_.out (by kernel_rfl)) (fun _ _ _ h => h) (Or.inl ⟨by rfl, ?_⟩) ?_ ?_
  rotate_left
  ·intro w'
   go_simp
   with_reducible rfl
  rotate_left
  ·simp only [Act.put, sI, sZ, sS, i64_w]
   rfl
  refine pure_ (i := 13) (N := some 29) (v := ?_) (a' := ?_) #[true, true, true, false, true, false, false, true, false, false, false, true, false, true, false, false, false, false, false, false] rfl rfl (any_of HT_.out (by kernel_rfl)) (fun _ _ _ h => h) (Or.inl ⟨by rfl, ?_⟩) ?_ ?_
  rotate_left
  ·intro w'
   go_simp
   with_reducible rfl
  rotate_left
  ·simp only [Act.put, sI, sZ, sS, i64_w]
   rfl
  refine pure_ (i := 15) (N := some 31) (v := ?_) (a' := ?_) #[true, true, true, false, true, false, false, true, false, false, false, true, false, true, false, true, false, false, false, false] rfl rfl (any_of HT_.out (by kernel_rfl)) (fun _ _ _ h => h) (Or.inl ⟨by rfl, ?_⟩) ?_ ?_
  rotate_left
  ·intro w'
   go_simp
   with_reducible rfl
  rotate_left
  ·simp only [Act.put, sI, sZ, sS, i64_w]
   rfl
  refine take_ (i := 3) (N := some 19) (v := ?_) (a' := ?_) #[true, true, true, true, true, false, false, true, false, false, false, true, false, true, false, true, false, false, false, false] rfl rfl (take_ofW HT_.out HW_.out (by kernel_rfl)) (fun _ _ _ h => h) (Or.inl ⟨by rfl, ?_⟩) hHeld ?_ ?_
  rotate_left
  ·rintro w' ⟨s0, s1, s2, s3, s4, s5, s6⟩
   go_simp
   with_reducible rfl
  rotate_left
  ·simp only [Act.put, sI, sZ, sS, i64_w]
   rfl
  refine pure_ (i := 5) (N := some 21) (v := ?_) (a' := ?_) #[true, true, true, true, true, true, false, true, false, false, false, true, false, true, false, true, false, false, false, false] rfl rfl (any_of HT_.out (by kernel_rfl)) (fun _ _ _ h => h) (Or.inl ⟨by rfl, ?_⟩) ?_ ?_
  rotate_left
  ·intro w'
   go_simp
   with_reducible rfl
  rotate_left
  ·simp only [Act.put, sI, sZ, sS, i64_w]
   rfl
  refine take_ (i := 6) (N := some 22) (v := ?_) (a' := ?_) #[true, true, true, true, true, true, true, true, false, false, false, true, false, true, false, true, false, false, false, false] rfl rfl (take_ofW HT_.out HW_.out (by kernel_rfl)) (fun _ _ _ h => h) (Or.inl ⟨by rfl, ?_⟩) hHeld ?_ ?_
  rotate_left
  ·rintro w' ⟨s0, s1, s2, s3, s4, s5, s6⟩
   go_simp
   with_reducible rfl
  rotate_left
  ·simp only [Act.put, sI, sZ, sS, i64_w]
   rfl
  refine take_ (i := 8) (N := some 24) (v := ?_) (a' := ?_) #[true, true, true, true, true, true, true, true, true, false, false, true, false, true, false, true, false, false, false, false] rfl rfl (take_ofW HT_.out HW_.out (by kernel_rfl)) (fun _ _ _ h => h) (Or.inl ⟨by rfl, ?_⟩) hHeld ?_ ?_
  rotate_left
  ·rintro w' ⟨s0, s1, s2, s3, s4, s5, s6⟩
   go_simp
   with_reducible rfl
  rotate_left
  ·simp only [Act.put, sI, sZ, sS, i64_w]
   rfl
  refine take_ (i := 12) (N := some 28) (v := ?_) (a' := ?_) #[true, true, true, true, true, true, true, true, true, false, false, true, true, true, false, true, false, false, false, false] rfl rfl (take_ofW HT_.out HW_.out (by kernel_rfl)) (fun _ _ _ h => h) (Or.inl ⟨by rfl, ?_⟩) hHeld ?_ ?_
  rotate_left
  ·rintro w' ⟨s0, s1, s2, s3, s4, s5, s6⟩
   go_simp
   with_reducible rfl
  rotate_left
  ·simp only [Act.put, sI, sZ, sS, i64_w]
   rfl
  refine take_ (i := 14) (N := some 30) (v := ?_) (a' := ?_) #[true, true, true, true, true, true, true, true, true, false, false, true, true, true, true, true, false, false, false, false] rfl rfl (take_ofW HT_.out HW_.out (by kernel_rfl)) (fun _ _ _ h => h) (Or.inl ⟨by rfl, ?_⟩) hHeld ?_ ?_
  rotate_left
  ·rintro w' ⟨s0, s1, s2, s3, s4, s5, s6⟩
   go_simp
   with_reducible rfl
  rotate_left
  ·simp only [Act.put, sI, sZ, sS, i64_w]
   rfl
  refine join_ (σ := Value × Value × Value) 3 #[true, true, true, true, true, true, true, true, true, true, true, true, true, true, true, true, true, false, false, false] (fun s_ => [(25, s_.1), (26, s_.2.1), (32, s_.2.2)]) (fun s_ w' => (w'.cell? ⟨gb226, 0, none⟩ = some (.int .i64 ((rd_T40 ((rd_T51 l0 0).f0) a1).f0)) ∧ w'.cell? ⟨gb226, 1, none⟩ = some (.int .i64 ((rd_T40 ((rd_T51 l0 0).f0) a1).f1)) ∧ w'.cell? ⟨gb226, 2, none⟩ = some (.int .i64 ((rd_T40 ((rd_T51 l0 0).f0) a1).f2)) ∧ w'.cell? ad224 = some (.slice A227_0 ((rd_T51 l0 0).f0).length c227_0) ∧ w'.cell? ⟨ad224.block, ad224.off + 1, none⟩ = some (.slice A227_1 ((rd_T51 l0 0).f1).length c227_1) ∧ w'.cell? ⟨ad224.block, ad224.off + 2, none⟩ = some (.slice (some ad228) ((rd_T51 l0 0).f2).length c227_2) ∧ w'.cell? (ad228.add (a1).toNat) = some (.slice A228_0 (rd_L3 ((rd_T51 l0 0).f2) a1).length c228_0)) ∧ (Kd.R (Kd.int .u64) 65 w' w.heap.size (fun k_ => some k_ ≠ (s_.2.1 : Value).ownBlock) s_.1 t229) ∧ (Kd.R (Kd.int .u64) 65 w' w.heap.size (fun k_ => some k_ ≠ (s_.1 : Value).ownBlock) s_.2.1 t232) ∧ (Kd.R (Kd.int .i64) 3 w' w.heap.size (fun _ => True) s_.2.2 y235) ∧ (w'.heap[gb223]? = some (.cells #[.slice none 0 0, .slice none 0 0] 57 (0, 0))) ∧ (w'.heap[gb226]? = some (.cells #[.int .i64 ((rd_T40 ((rd_T51 l0 0).f0) a1).f0), .int .i64 ((rd_T40 ((rd_T51 l0 0).f0) a1).f1), .int .i64 ((rd_T40 ((rd_T51 l0 0).f0) a1).f2)] 40 (0, 0))) ∧ (Below w.heap.size w w')) ?_ ?_
  rotate_left
  ·intro hCont
   refine two_ (i := 9) (j := 16) (Ni := some 25) (Nj := some 32) #[true, true, true, true, true, true, true, true, true, true, false, true, true, true, true, true, false, false, false, false] #[true, true, true, true, true, true, true, true, true, false, false, true, true, true, true, true, true, false, false, false] rfl rfl rfl rfl (two_of HT_.out (by kernel_rfl)) (by decide) (by decide) (fun K hK => ?_) (fun K hK => ?_)
   ·skip
    refine goes_ Try.func27 (by kernel_rfl) rfl #[.int .i64 ((rd_T40 ((rd_T51 l0 0).f0) a1).f0)] (by rfl) rfl rfl (by (try simp only [mA, mC, mN]); first | done | rfl | (simp only [lD, lT]; rfl)) ?_
    with_reducible refine (nat_Of.calls ((rd_T40 ((rd_T51 l0 0).f0) a1).f0) t229 _ A8.out).mono ?_
    rintro e w58 ⟨v230, rfl, ho0, hb⟩
    refine ⟨_, rfl, ?_⟩
    have n0_ := aM (Kd.R_lower ho0 (bZ (by repeat (first | (with_reducible first | exact HB.out | apply bA | apply pN | apply bD | refine bE ?_ GE223.out | refine bE ?_ GE226.out) | exact HB.out)))); have n1_ := aM (blk_below (g := gb223) (o := .cells #[.slice none 0 0, .slice none 0 0] 57 (0, 0)) (by apply_rules [BK223.out, kN, kD, kA]) hb); have n2_ := aM (blk_below (g := gb226) (o := .cells #[.int .i64 ((rd_T40 ((rd_T51 l0 0).f0) a1).f0), .int .i64 ((rd_T40 ((rd_T51 l0 0).f0) a1).f1), .int .i64 ((rd_T40 ((rd_T51 l0 0).f0) a1).f2)] 40 (0, 0)) (by apply_rules [BK226.out, kN, kD, kA]) hb); have n3_ := aM (bS (by repeat (first | (with_reducible first | exact HB.out | apply bA | apply pN | apply bD | refine bE ?_ GE223.out | refine bE ?_ GE226.out) | exact HB.out)) hb); clear BK223 BK226 HB; have HO231 := n0_; have BK223 := n1_; have BK226 := n2_; have HB := n3_; clear n0_ n1_ n2_ n3_
    (try clear hb)
    (try clear hb2)
    (try clear hk)
    (try clear hi)
    (try clear ho0)
    obtain ⟨Ao59, co59, eo59⟩ := Kd.R_slice HO231.out
    (first | subst eo59 | (injection eo59 with f1_ f2_ f3_; have f4_ := f1_.symm; have f5_ := f3_.symm; clear f1_ f2_ f3_; subst f4_; subst f5_))
    refine hK.out _ _ ⟨(kC BK226.out 0).trans rfl, (kC BK226.out 1).trans rfl, (kC BK226.out 2).trans rfl, ((HB.out.cell (wL w _ hw227_0)).trans hw227_0), ((HB.out.cell (wL w _ hw227_1)).trans hw227_1), ((HB.out.cell (wL w _ hw227_2)).trans hw227_2), ((HB.out.cell (wL w _ hw228_0)).trans hw228_0)⟩ (fun hHeld => ?_)
    clear hK K
    refine norm_ (a' := ?_) ?_ ?_
    rotate_left
    ·show Act.put _ (some 25) _ = _
     simp only [Act.put, sI, sZ, sS, i64_w]
     rfl
    refine two_ (i := 10) (j := 16) (Ni := some 26) (Nj := some 32) #[true, true, true, true, true, true, true, true, true, true, true, true, true, true, true, true, false, false, false, false] #[true, true, true, true, true, true, true, true, true, true, false, true, true, true, true, true, true, false, false, false] rfl rfl rfl rfl (two_of HT_.out (by kernel_rfl)) (by decide) (by decide) (fun K hK => ?_) (fun K hK => ?_)
    ·skip
     refine goes_ Try.func30 (by kernel_rfl) rfl #[.slice A228_0 (rd_L3 ((rd_T51 l0 0).f2) a1).length c228_0, .slice Ao59 t229.length co59] (by rfl) rfl rfl (by (try simp only [mA, mC, mN]); first | done | rfl | (simp only [lD, lT]; rfl)) ?_
     with_reducible refine (nat_Mul.calls k _ _ (rd_L3 ((rd_T51 l0 0).f2) a1) _ _ t229 t232 _ ?side1 ?side2 ?side3 ?side4 A9.out).mono ?_
     (case side1 => repeat (first | exact (Kd.C_below HR228_0.out HB.out) | (with_reducible refine cA ?_ _) | (with_reducible refine cN ?_ _) | (with_reducible refine cD ?_)))
     (case side2 => exact HC228_0.out)
     (case side3 => repeat (first | exact (rS HO231.out).2.2 | (with_reducible refine cA ?_ _) | (with_reducible refine cN ?_ _) | (with_reducible refine cD ?_)))
     (case side4 => exact (rS HO231.out).2.1)
     rintro e w60 ⟨v233, rfl, ho0, hb⟩
     refine ⟨_, rfl, ?_⟩
     have n0_ := aM (rE (by apply_rules [HO231.out, rN, rD]) (rB ho0) hb); have n1_ := aM (Kd.R_lower (rW ho0 (rL (by apply_rules [HO231.out, rN, rD]))) (bZ (by repeat (first | (with_reducible first | exact HB.out | apply bA | apply pN | apply bD | refine bE ?_ GE223.out | refine bE ?_ GE226.out) | exact HB.out)))); have n2_ := aM (blk_below (g := gb223) (o := .cells #[.slice none 0 0, .slice none 0 0] 57 (0, 0)) (by apply_rules [BK223.out, kN, kD, kA]) hb); have n3_ := aM (blk_below (g := gb226) (o := .cells #[.int .i64 ((rd_T40 ((rd_T51 l0 0).f0) a1).f0), .int .i64 ((rd_T40 ((rd_T51 l0 0).f0) a1).f1), .int .i64 ((rd_T40 ((rd_T51 l0 0).f0) a1).f2)] 40 (0, 0)) (by apply_rules [BK226.out, kN, kD, kA]) hb); have n4_ := aM (bS (by repeat (first | (with_reducible first | exact HB.out | apply bA | apply pN | apply bD | refine bE ?_ GE223.out | refine bE ?_ GE226.out) | exact HB.out)) hb); clear HO231 BK223 BK226 HB; have HO231 := n0_; have HO234 := n1_; have BK223 := n2_; have BK226 := n3_; have HB := n4_; clear n0_ n1_ n2_ n3_ n4_
     (try clear hb)
     (try clear hb2)
     (try clear hk)
     (try clear hi)
     (try clear ho0)
     refine hK.out _ _ ⟨(kC BK226.out 0).trans rfl, (kC BK226.out 1).trans rfl, (kC BK226.out 2).trans rfl, ((HB.out.cell (wL w _ hw227_0)).trans hw227_0), ((HB.out.cell (wL w _ hw227_1)).trans hw227_1), ((HB.out.cell (wL w _ hw227_2)).trans hw227_2), ((HB.out.cell (wL w _ hw228_0)).trans hw228_0)⟩ (fun hHeld => ?_)
     clear hK K
     refine norm_ (a' := ?_) ?_ ?_
     rotate_left
     ·show Act.put _ (some 26) _ = _
      simp only [Act.put, sI, sZ, sS, i64_w]
      rfl
     refine one_ (i := 16) (N := some 32) #[true, true, true, true, true, true, true, true, true, true, true, true, true, true, true, true, true, false, false, false] rfl rfl (one_of HT_.out (by kernel_rfl)) (by decide) (fun K hK => ?_)
     refine Kd.R_lit_step (Kd.int .i64) _ 3 ?hg (N := 32) ?hd (xs := ([2, (rd_T40 ((rd_T51 l0 0).f0) a1).f0, (rd_T40 ((rd_T51 l0 0).f0) a1).f1, a2] : List Int)) (inner := [.int .i64 2, .int .i64 ((rd_T40 ((rd_T51 l0 0).f0) a1).f0), .int .i64 ((rd_T40 ((rd_T51 l0 0).f0) a1).f1), .int .i64 a2]) (ok := fun _ => True) (okp := fun _ => True) ?hr ?hp (fun _ hk => hk) trivial (Below.refl _ _) (Nat.le_refl _) (by simp) ?_; (case hd => rfl); (case hg => rfl); (case hr => first | (go_simp; done) | (go_simp; rfl)); (case hp => exact (Reps.one (show Kd.M (Kd.int .i64) _ _ _ 2 [.int .i64 2] from rfl) (Reps.one (show Kd.M (Kd.int .i64) _ _ _ ((rd_T40 ((rd_T51 l0 0).f0) a1).f0) [.int .i64 ((rd_T40 ((rd_T51 l0 0).f0) a1).f0)] from rfl) (Reps.one (show Kd.M (Kd.int .i64) _ _ _ ((rd_T40 ((rd_T51 l0 0).f0) a1).f1) [.int .i64 ((rd_T40 ((rd_T51 l0 0).f0) a1).f1)] from rfl) (Reps.one (show Kd.M (Kd.int .i64) _ _ _ a2 [.int .i64 a2] from rfl) (Reps.none _ _))))))
     intro v236 w61 ho62 hb hg_ hnew_
     clear hg_ hnew_
     (first | rw [← Ny235.out] at ho62 | (simp only [Int.reduceToNat] at ho62; rw [← Ny235.out] at ho62))
     have n0_ := aM (rO (by apply_rules [HO231.out, rN, rD]) hb); have n1_ := aM (rO (by apply_rules [HO234.out, rN, rD]) hb); have n2_ := aM (Kd.R_lower ho62 (bZ (by repeat (first | (with_reducible first | exact HB.out | apply bA | apply pN | apply bD | refine bE ?_ GE223.out | refine bE ?_ GE226.out) | exact HB.out)))); have n3_ := aM (blk_below (g := gb223) (o := .cells #[.slice none 0 0, .slice none 0 0] 57 (0, 0)) (by apply_rules [BK223.out, kN, kD, kA]) hb); have n4_ := aM (blk_below (g := gb226) (o := .cells #[.int .i64 ((rd_T40 ((rd_T51 l0 0).f0) a1).f0), .int .i64 ((rd_T40 ((rd_T51 l0 0).f0) a1).f1), .int .i64 ((rd_T40 ((rd_T51 l0 0).f0) a1).f2)] 40 (0, 0)) (by apply_rules [BK226.out, kN, kD, kA]) hb); have n5_ := aM (bS (by repeat (first | (with_reducible first | exact HB.out | apply bA | apply pN | apply bD | refine bE ?_ GE223.out | refine bE ?_ GE226.out) | exact HB.out)) hb); clear HO231 HO234 BK223 BK226 HB; have HO231 := n0_; have HO234 := n1_; have HO237 := n2_; have BK223 := n3_; have BK226 := n4_; have HB := n5_; clear n0_ n1_ n2_ n3_ n4_ n5_ hb ho62
     refine hK.out _ _ ⟨(kC BK226.out 0).trans rfl, (kC BK226.out 1).trans rfl, (kC BK226.out 2).trans rfl, ((HB.out.cell (wL w _ hw227_0)).trans hw227_0), ((HB.out.cell (wL w _ hw227_1)).trans hw227_1), ((HB.out.cell (wL w _ hw227_2)).trans hw227_2), ((HB.out.cell (wL w _ hw228_0)).trans hw228_0)⟩ (fun hHeld => ?_)
     clear hK K
     refine norm_ (a' := ?_) ?_ ?_
     rotate_left
     ·show Act.put _ (some 32) _ = _
      simp only [Act.put, sI, sZ, sS, i64_w]
      rfl
     exact norm_ (by simp only [putAll, Act.put, sI, sZ, sS]) (hCont (.slice Ao59 t229.length co59, v233, v236) _ ⟨hHeld, (by (with_reducible repeat (first | apply rN | apply rD)); exact Kd.R_mono HO231.out (fun _ hk => hk.2)), (by (with_reducible repeat (first | apply rN | apply rD)); exact Kd.R_mono HO234.out (fun _ hk => hk.2)), (by apply_rules [HO237.out, rN, rD]), (by apply_rules [BK223.out, kN, kD, kA]), (by apply_rules [BK226.out, kN, kD, kA]), (by repeat (first | (with_reducible first | exact HB.out | apply bA | apply pN | apply bD | refine bE ?_ GE223.out | refine bE ?_ GE226.out) | exact HB.out))⟩)
    ·skip
     refine Kd.R_lit_step (Kd.int .i64) _ 3 ?hg (N := 32) ?hd (xs := ([2, (rd_T40 ((rd_T51 l0 0).f0) a1).f0, (rd_T40 ((rd_T51 l0 0).f0) a1).f1, a2] : List Int)) (inner := [.int .i64 2, .int .i64 ((rd_T40 ((rd_T51 l0 0).f0) a1).f0), .int .i64 ((rd_T40 ((rd_T51 l0 0).f0) a1).f1), .int .i64 a2]) (ok := fun _ => True) (okp := fun _ => True) ?hr ?hp (fun _ hk => hk) trivial (Below.refl _ _) (Nat.le_refl _) (by simp) ?_; (case hd => rfl); (case hg => rfl); (case hr => first | (go_simp; done) | (go_simp; rfl)); (case hp => exact (Reps.one (show Kd.M (Kd.int .i64) _ _ _ 2 [.int .i64 2] from rfl) (Reps.one (show Kd.M (Kd.int .i64) _ _ _ ((rd_T40 ((rd_T51 l0 0).f0) a1).f0) [.int .i64 ((rd_T40 ((rd_T51 l0 0).f0) a1).f0)] from rfl) (Reps.one (show Kd.M (Kd.int .i64) _ _ _ ((rd_T40 ((rd_T51 l0 0).f0) a1).f1) [.int .i64 ((rd_T40 ((rd_T51 l0 0).f0) a1).f1)] from rfl) (Reps.one (show Kd.M (Kd.int .i64) _ _ _ a2 [.int .i64 a2] from rfl) (Reps.none _ _))))))
     intro v236 w59 ho60 hb hg_ hnew_
     clear hg_ hnew_
     (first | rw [← Ny235.out] at ho60 | (simp only [Int.reduceToNat] at ho60; rw [← Ny235.out] at ho60))
     have n0_ := aM (rO (by apply_rules [HO231.out, rN, rD]) hb); have n1_ := aM (Kd.R_lower ho60 (bZ (by repeat (first | (with_reducible first | exact HB.out | apply bA | apply pN | apply bD | refine bE ?_ GE223.out | refine bE ?_ GE226.out) | exact HB.out)))); have n2_ := aM (blk_below (g := gb223) (o := .cells #[.slice none 0 0, .slice none 0 0] 57 (0, 0)) (by apply_rules [BK223.out, kN, kD, kA]) hb); have n3_ := aM (blk_below (g := gb226) (o := .cells #[.int .i64 ((rd_T40 ((rd_T51 l0 0).f0) a1).f0), .int .i64 ((rd_T40 ((rd_T51 l0 0).f0) a1).f1), .int .i64 ((rd_T40 ((rd_T51 l0 0).f0) a1).f2)] 40 (0, 0)) (by apply_rules [BK226.out, kN, kD, kA]) hb); have n4_ := aM (bS (by repeat (first | (with_reducible first | exact HB.out | apply bA | apply pN | apply bD | refine bE ?_ GE223.out | refine bE ?_ GE226.out) | exact HB.out)) hb); clear HO231 BK223 BK226 HB; have HO231 := n0_; have HO237 := n1_; have BK223 := n2_; have BK226 := n3_; have HB := n4_; clear n0_ n1_ n2_ n3_ n4_ hb ho60
     obtain ⟨Ao61, co61, eo61⟩ := Kd.R_slice HO231.out
     (first | subst eo61 | (injection eo61 with f1_ f2_ f3_; have f4_ := f1_.symm; have f5_ := f3_.symm; clear f1_ f2_ f3_; subst f4_; subst f5_))
     refine hK.out _ _ ⟨(kC BK226.out 0).trans rfl, (kC BK226.out 1).trans rfl, (kC BK226.out 2).trans rfl, ((HB.out.cell (wL w _ hw227_0)).trans hw227_0), ((HB.out.cell (wL w _ hw227_1)).trans hw227_1), ((HB.out.cell (wL w _ hw227_2)).trans hw227_2), ((HB.out.cell (wL w _ hw228_0)).trans hw228_0)⟩ (fun hHeld => ?_)
     clear hK K
     refine norm_ (a' := ?_) ?_ ?_
     rotate_left
     ·show Act.put _ (some 32) _ = _
      simp only [Act.put, sI, sZ, sS, i64_w]
      rfl
     refine one_ (i := 10) (N := some 26) #[true, true, true, true, true, true, true, true, true, true, true, true, true, true, true, true, true, false, false, false] rfl rfl (one_of HT_.out (by kernel_rfl)) (by decide) (fun K hK => ?_)
     refine goes_ Try.func30 (by kernel_rfl) rfl #[.slice A228_0 (rd_L3 ((rd_T51 l0 0).f2) a1).length c228_0, .slice Ao61 t229.length co61] (by rfl) rfl rfl (by (try simp only [mA, mC, mN]); first | done | rfl | (simp only [lD, lT]; rfl)) ?_
     with_reducible refine (nat_Mul.calls k _ _ (rd_L3 ((rd_T51 l0 0).f2) a1) _ _ t229 t232 _ ?side1 ?side2 ?side3 ?side4 A9.out).mono ?_
     (case side1 => repeat (first | exact (Kd.C_below HR228_0.out HB.out) | (with_reducible refine cA ?_ _) | (with_reducible refine cN ?_ _) | (with_reducible refine cD ?_)))
     (case side2 => exact HC228_0.out)
     (case side3 => repeat (first | exact (rS HO231.out).2.2 | (with_reducible refine cA ?_ _) | (with_reducible refine cN ?_ _) | (with_reducible refine cD ?_)))
     (case side4 => exact (rS HO231.out).2.1)
     rintro e w62 ⟨v233, rfl, ho0, hb⟩
     refine ⟨_, rfl, ?_⟩
     have n0_ := aM (rE (by apply_rules [HO231.out, rN, rD]) (rB ho0) hb); have n1_ := aM (rO (by apply_rules [HO237.out, rN, rD]) hb); have n2_ := aM (Kd.R_lower (rW ho0 (rL (by apply_rules [HO231.out, rN, rD]))) (bZ (by repeat (first | (with_reducible first | exact HB.out | apply bA | apply pN | apply bD | refine bE ?_ GE223.out | refine bE ?_ GE226.out) | exact HB.out)))); have n3_ := aM (blk_below (g := gb223) (o := .cells #[.slice none 0 0, .slice none 0 0] 57 (0, 0)) (by apply_rules [BK223.out, kN, kD, kA]) hb); have n4_ := aM (blk_below (g := gb226) (o := .cells #[.int .i64 ((rd_T40 ((rd_T51 l0 0).f0) a1).f0), .int .i64 ((rd_T40 ((rd_T51 l0 0).f0) a1).f1), .int .i64 ((rd_T40 ((rd_T51 l0 0).f0) a1).f2)] 40 (0, 0)) (by apply_rules [BK226.out, kN, kD, kA]) hb); have n5_ := aM (bS (by repeat (first | (with_reducible first | exact HB.out | apply bA | apply pN | apply bD | refine bE ?_ GE223.out | refine bE ?_ GE226.out) | exact HB.out)) hb); clear HO231 HO237 BK223 BK226 HB; have HO231 := n0_; have HO237 := n1_; have HO234 := n2_; have BK223 := n3_; have BK226 := n4_; have HB := n5_; clear n0_ n1_ n2_ n3_ n4_ n5_
     (try clear hb)
     (try clear hb2)
     (try clear hk)
     (try clear hi)
     (try clear ho0)
     refine hK.out _ _ ⟨(kC BK226.out 0).trans rfl, (kC BK226.out 1).trans rfl, (kC BK226.out 2).trans rfl, ((HB.out.cell (wL w _ hw227_0)).trans hw227_0), ((HB.out.cell (wL w _ hw227_1)).trans hw227_1), ((HB.out.cell (wL w _ hw227_2)).trans hw227_2), ((HB.out.cell (wL w _ hw228_0)).trans hw228_0)⟩ (fun hHeld => ?_)
     clear hK K
     refine norm_ (a' := ?_) ?_ ?_
     rotate_left
     ·show Act.put _ (some 26) _ = _
      simp only [Act.put, sI, sZ, sS, i64_w]
      rfl
     exact norm_ (by simp only [putAll, Act.put, sI, sZ, sS]) (hCont (.slice Ao61 t229.length co61, v233, v236) _ ⟨hHeld, (by (with_reducible repeat (first | apply rN | apply rD)); exact Kd.R_mono HO231.out (fun _ hk => hk.2)), (by (with_reducible repeat (first | apply rN | apply rD)); exact Kd.R_mono HO234.out (fun _ hk => hk.2)), (by apply_rules [HO237.out, rN, rD]), (by apply_rules [BK223.out, kN, kD, kA]), (by apply_rules [BK226.out, kN, kD, kA]), (by repeat (first | (with_reducible first | exact HB.out | apply bA | apply pN | apply bD | refine bE ?_ GE223.out | refine bE ?_ GE226.out) | exact HB.out))⟩)
   ·skip
    refine Kd.R_lit_step (Kd.int .i64) _ 3 ?hg (N := 32) ?hd (xs := ([2, (rd_T40 ((rd_T51 l0 0).f0) a1).f0, (rd_T40 ((rd_T51 l0 0).f0) a1).f1, a2] : List Int)) (inner := [.int .i64 2, .int .i64 ((rd_T40 ((rd_T51 l0 0).f0) a1).f0), .int .i64 ((rd_T40 ((rd_T51 l0 0).f0) a1).f1), .int .i64 a2]) (ok := fun _ => True) (okp := fun _ => True) ?hr ?hp (fun _ hk => hk) trivial (Below.refl _ _) (Nat.le_refl _) (by simp) ?_; (case hd => rfl); (case hg => rfl); (case hr => first | (go_simp; done) | (go_simp; rfl)); (case hp => exact (Reps.one (show Kd.M (Kd.int .i64) _ _ _ 2 [.int .i64 2] from rfl) (Reps.one (show Kd.M (Kd.int .i64) _ _ _ ((rd_T40 ((rd_T51 l0 0).f0) a1).f0) [.int .i64 ((rd_T40 ((rd_T51 l0 0).f0) a1).f0)] from rfl) (Reps.one (show Kd.M (Kd.int .i64) _ _ _ ((rd_T40 ((rd_T51 l0 0).f0) a1).f1) [.int .i64 ((rd_T40 ((rd_T51 l0 0).f0) a1).f1)] from rfl) (Reps.one (show Kd.M (Kd.int .i64) _ _ _ a2 [.int .i64 a2] from rfl) (Reps.none _ _))))))
    intro v236 w58 ho59 hb hg_ hnew_
    clear hg_ hnew_
    (first | rw [← Ny235.out] at ho59 | (simp only [Int.reduceToNat] at ho59; rw [← Ny235.out] at ho59))
    have n0_ := aM (Kd.R_lower ho59 (bZ (by repeat (first | (with_reducible first | exact HB.out | apply bA | apply pN | apply bD | refine bE ?_ GE223.out | refine bE ?_ GE226.out) | exact HB.out)))); have n1_ := aM (blk_below (g := gb223) (o := .cells #[.slice none 0 0, .slice none 0 0] 57 (0, 0)) (by apply_rules [BK223.out, kN, kD, kA]) hb); have n2_ := aM (blk_below (g := gb226) (o := .cells #[.int .i64 ((rd_T40 ((rd_T51 l0 0).f0) a1).f0), .int .i64 ((rd_T40 ((rd_T51 l0 0).f0) a1).f1), .int .i64 ((rd_T40 ((rd_T51 l0 0).f0) a1).f2)] 40 (0, 0)) (by apply_rules [BK226.out, kN, kD, kA]) hb); have n3_ := aM (bS (by repeat (first | (with_reducible first | exact HB.out | apply bA | apply pN | apply bD | refine bE ?_ GE223.out | refine bE ?_ GE226.out) | exact HB.out)) hb); clear BK223 BK226 HB; have HO237 := n0_; have BK223 := n1_; have BK226 := n2_; have HB := n3_; clear n0_ n1_ n2_ n3_ hb ho59
    refine hK.out _ _ ⟨(kC BK226.out 0).trans rfl, (kC BK226.out 1).trans rfl, (kC BK226.out 2).trans rfl, ((HB.out.cell (wL w _ hw227_0)).trans hw227_0), ((HB.out.cell (wL w _ hw227_1)).trans hw227_1), ((HB.out.cell (wL w _ hw227_2)).trans hw227_2), ((HB.out.cell (wL w _ hw228_0)).trans hw228_0)⟩ (fun hHeld => ?_)
    clear hK K
    refine norm_ (a' := ?_) ?_ ?_
    rotate_left
    ·show Act.put _ (some 32) _ = _
     simp only [Act.put, sI, sZ, sS, i64_w]
     rfl
    refine one_ (i := 9) (N := some 25) #[true, true, true, true, true, true, true, true, true, true, false, true, true, true, true, true, true, false, false, false] rfl rfl (one_of HT_.out (by kernel_rfl)) (by decide) (fun K hK => ?_)
    refine goes_ Try.func27 (by kernel_rfl) rfl #[.int .i64 ((rd_T40 ((rd_T51 l0 0).f0) a1).f0)] (by rfl) rfl rfl (by (try simp only [mA, mC, mN]); first | done | rfl | (simp only [lD, lT]; rfl)) ?_
    with_reducible refine (nat_Of.calls ((rd_T40 ((rd_T51 l0 0).f0) a1).f0) t229 _ A8.out).mono ?_
    rintro e w60 ⟨v230, rfl, ho0, hb⟩
    refine ⟨_, rfl, ?_⟩
    have n0_ := aM (rO (by apply_rules [HO237.out, rN, rD]) hb); have n1_ := aM (Kd.R_lower ho0 (bZ (by repeat (first | (with_reducible first | exact HB.out | apply bA | apply pN | apply bD | refine bE ?_ GE223.out | refine bE ?_ GE226.out) | exact HB.out)))); have n2_ := aM (blk_below (g := gb223) (o := .cells #[.slice none 0 0, .slice none 0 0] 57 (0, 0)) (by apply_rules [BK223.out, kN, kD, kA]) hb); have n3_ := aM (blk_below (g := gb226) (o := .cells #[.int .i64 ((rd_T40 ((rd_T51 l0 0).f0) a1).f0), .int .i64 ((rd_T40 ((rd_T51 l0 0).f0) a1).f1), .int .i64 ((rd_T40 ((rd_T51 l0 0).f0) a1).f2)] 40 (0, 0)) (by apply_rules [BK226.out, kN, kD, kA]) hb); have n4_ := aM (bS (by repeat (first | (with_reducible first | exact HB.out | apply bA | apply pN | apply bD | refine bE ?_ GE223.out | refine bE ?_ GE226.out) | exact HB.out)) hb); clear HO237 BK223 BK226 HB; have HO237 := n0_; have HO231 := n1_; have BK223 := n2_; have BK226 := n3_; have HB := n4_; clear n0_ n1_ n2_ n3_ n4_
    (try clear hb)
    (try clear hb2)
    (try clear hk)
    (try clear hi)
    (try clear ho0)
    obtain ⟨Ao61, co61, eo61⟩ := Kd.R_slice HO231.out
    (first | subst eo61 | (injection eo61 with f1_ f2_ f3_; have f4_ := f1_.symm; have f5_ := f3_.symm; clear f1_ f2_ f3_; subst f4_; subst f5_))
    refine hK.out _ _ ⟨(kC BK226.out 0).trans rfl, (kC BK226.out 1).trans rfl, (kC BK226.out 2).trans rfl, ((HB.out.cell (wL w _ hw227_0)).trans hw227_0), ((HB.out.cell (wL w _ hw227_1)).trans hw227_1), ((HB.out.cell (wL w _ hw227_2)).trans hw227_2), ((HB.out.cell (wL w _ hw228_0)).trans hw228_0)⟩ (fun hHeld => ?_)
    clear hK K
    refine norm_ (a' := ?_) ?_ ?_
    rotate_left
    ·show Act.put _ (some 25) _ = _
     simp only [Act.put, sI, sZ, sS, i64_w]
     rfl
    refine one_ (i := 10) (N := some 26) #[true, true, true, true, true, true, true, true, true, true, true, true, true, true, true, true, true, false, false, false] rfl rfl (one_of HT_.out (by kernel_rfl)) (by decide) (fun K hK => ?_)
    refine goes_ Try.func30 (by kernel_rfl) rfl #[.slice A228_0 (rd_L3 ((rd_T51 l0 0).f2) a1).length c228_0, .slice Ao61 t229.length co61] (by rfl) rfl rfl (by (try simp only [mA, mC, mN]); first | done | rfl | (simp only [lD, lT]; rfl)) ?_
    with_reducible refine (nat_Mul.calls k _ _ (rd_L3 ((rd_T51 l0 0).f2) a1) _ _ t229 t232 _ ?side1 ?side2 ?side3 ?side4 A9.out).mono ?_
    (case side1 => repeat (first | exact (Kd.C_below HR228_0.out HB.out) | (with_reducible refine cA ?_ _) | (with_reducible refine cN ?_ _) | (with_reducible refine cD ?_)))
    (case side2 => exact HC228_0.out)
    (case side3 => repeat (first | exact (rS HO231.out).2.2 | (with_reducible refine cA ?_ _) | (with_reducible refine cN ?_ _) | (with_reducible refine cD ?_)))
    (case side4 => exact (rS HO231.out).2.1)
    rintro e w62 ⟨v233, rfl, ho0, hb⟩
    refine ⟨_, rfl, ?_⟩
    have n0_ := aM (rO (by apply_rules [HO237.out, rN, rD]) hb); have n1_ := aM (rE (by apply_rules [HO231.out, rN, rD]) (rB ho0) hb); have n2_ := aM (Kd.R_lower (rW ho0 (rL (by apply_rules [HO231.out, rN, rD]))) (bZ (by repeat (first | (with_reducible first | exact HB.out | apply bA | apply pN | apply bD | refine bE ?_ GE223.out | refine bE ?_ GE226.out) | exact HB.out)))); have n3_ := aM (blk_below (g := gb223) (o := .cells #[.slice none 0 0, .slice none 0 0] 57 (0, 0)) (by apply_rules [BK223.out, kN, kD, kA]) hb); have n4_ := aM (blk_below (g := gb226) (o := .cells #[.int .i64 ((rd_T40 ((rd_T51 l0 0).f0) a1).f0), .int .i64 ((rd_T40 ((rd_T51 l0 0).f0) a1).f1), .int .i64 ((rd_T40 ((rd_T51 l0 0).f0) a1).f2)] 40 (0, 0)) (by apply_rules [BK226.out, kN, kD, kA]) hb); have n5_ := aM (bS (by repeat (first | (with_reducible first | exact HB.out | apply bA | apply pN | apply bD | refine bE ?_ GE223.out | refine bE ?_ GE226.out) | exact HB.out)) hb); clear HO237 HO231 BK223 BK226 HB; have HO237 := n0_; have HO231 := n1_; have HO234 := n2_; have BK223 := n3_; have BK226 := n4_; have HB := n5_; clear n0_ n1_ n2_ n3_ n4_ n5_
    (try clear hb)
    (try clear hb2)
    (try clear hk)
    (try clear hi)
    (try clear ho0)
    refine hK.out _ _ ⟨(kC BK226.out 0).trans rfl, (kC BK226.out 1).trans rfl, (kC BK226.out 2).trans rfl, ((HB.out.cell (wL w _ hw227_0)).trans hw227_0), ((HB.out.cell (wL w _ hw227_1)).trans hw227_1), ((HB.out.cell (wL w _ hw227_2)).trans hw227_2), ((HB.out.cell (wL w _ hw228_0)).trans hw228_0)⟩ (fun hHeld => ?_)
    clear hK K
    refine norm_ (a' := ?_) ?_ ?_
    rotate_left
    ·show Act.put _ (some 26) _ = _
     simp only [Act.put, sI, sZ, sS, i64_w]
     rfl
    exact norm_ (by simp only [putAll, Act.put, sI, sZ, sS]) (hCont (.slice Ao61 t229.length co61, v233, v236) _ ⟨hHeld, (by (with_reducible repeat (first | apply rN | apply rD)); exact Kd.R_mono HO231.out (fun _ hk => hk.2)), (by (with_reducible repeat (first | apply rN | apply rD)); exact Kd.R_mono HO234.out (fun _ hk => hk.2)), (by apply_rules [HO237.out, rN, rD]), (by apply_rules [BK223.out, kN, kD, kA]), (by apply_rules [BK226.out, kN, kD, kA]), (by repeat (first | (with_reducible first | exact HB.out | apply bA | apply pN | apply bD | refine bE ?_ GE223.out | refine bE ?_ GE226.out) | exact HB.out))⟩)
  rintro ⟨v230, v233, v236⟩ w63 ⟨hS_, h0_, h1_, h2_, h3_, h4_, h5_⟩
  have n0_ : Aside0 (Kd.R (Kd.int .u64) 65 w63 w.heap.size (fun k_ => some k_ ≠ (v233 : Value).ownBlock) v230 t229) := ⟨h0_⟩
  have n1_ : Aside0 (Kd.R (Kd.int .u64) 65 w63 w.heap.size (fun k_ => some k_ ≠ (v230 : Value).ownBlock) v233 t232) := ⟨h1_⟩
  have n2_ : Aside0 (Kd.R (Kd.int .i64) 3 w63 w.heap.size (fun _ => True) v236 y235) := ⟨h2_⟩
  have n3_ : Aside0 (w63.heap[gb223]? = some (.cells #[.slice none 0 0, .slice none 0 0] 57 (0, 0))) := ⟨h3_⟩
  have n4_ : Aside0 (w63.heap[gb226]? = some (.cells #[.int .i64 ((rd_T40 ((rd_T51 l0 0).f0) a1).f0), .int .i64 ((rd_T40 ((rd_T51 l0 0).f0) a1).f1), .int .i64 ((rd_T40 ((rd_T51 l0 0).f0) a1).f2)] 40 (0, 0))) := ⟨h4_⟩
  have n5_ : Aside0 (Below w.heap.size w w63) := ⟨h5_⟩
  clear BK223 BK226 HB h0_ h1_ h2_ h3_ h4_ h5_; have HO231 := n0_; have HO234 := n1_; have HO237 := n2_; have BK223 := n3_; have BK226 := n4_; have HB := n5_; clear n0_ n1_ n2_ n3_ n4_ n5_
  have hHeld : w63.cell? ⟨gb226, 0, none⟩ = some (.int .i64 ((rd_T40 ((rd_T51 l0 0).f0) a1).f0)) ∧ w63.cell? ⟨gb226, 1, none⟩ = some (.int .i64 ((rd_T40 ((rd_T51 l0 0).f0) a1).f1)) ∧ w63.cell? ⟨gb226, 2, none⟩ = some (.int .i64 ((rd_T40 ((rd_T51 l0 0).f0) a1).f2)) ∧ w63.cell? ad224 = some (.slice A227_0 ((rd_T51 l0 0).f0).length c227_0) ∧ w63.cell? ⟨ad224.block, ad224.off + 1, none⟩ = some (.slice A227_1 ((rd_T51 l0 0).f1).length c227_1) ∧ w63.cell? ⟨ad224.block, ad224.off + 2, none⟩ = some (.slice (some ad228) ((rd_T51 l0 0).f2).length c227_2) ∧ w63.cell? (ad228.add (a1).toNat) = some (.slice A228_0 (rd_L3 ((rd_T51 l0 0).f2) a1).length c228_0) := hS_
  obtain ⟨Ao64, co64, eo64⟩ := Kd.R_slice HO237.out
  (first | subst eo64 | (injection eo64 with f1_ f2_ f3_; have f4_ := f1_.symm; have f5_ := f3_.symm; clear f1_ f2_ f3_; subst f4_; subst f5_))
  refine norm_ (a' := ?_) ?_ ?_
  rotate_left
  ·simp only [putAll, Act.put, sI, sZ, sS]
   rfl
  refine one_ (i := 17) (N := some 33) #[true, true, true, true, true, true, true, true, true, true, true, true, true, true, true, true, true, true, false, false] rfl rfl (one_of HT_.out (by kernel_rfl)) (by decide) (fun K hK => ?_)
  refine goes_ Try.func21 (by kernel_rfl) rfl #[.slice Ao64 y235.length co64] (by rfl) rfl rfl (by (try simp only [mA, mC, mN]); first | done | rfl | (simp only [lD, lT]; rfl)) ?_
  with_reducible refine (load_product.calls k _ _ y235 t238 _ ?side1 ?side2 A10.out).mono ?_
  (case side1 => repeat (first | exact (rS HO237.out).2.2 | (with_reducible refine cA ?_ _) | (with_reducible refine cN ?_ _) | (with_reducible refine cD ?_)))
  (case side2 => exact (rS HO237.out).2.1)
  rintro e w65 ⟨v239, rfl, ho0, hb⟩
  refine ⟨_, rfl, ?_⟩
  have n0_ := aM (rE (by apply_rules [HO231.out, rN, rD]) (rB ho0) hb); have n1_ := aM (rE (by apply_rules [HO234.out, rN, rD]) (rB ho0) hb); have n2_ := aM (rO (by apply_rules [HO237.out, rN, rD]) hb); have n3_ := aM (Kd.R_lower (rW (rW ho0 (rL (by apply_rules [HO231.out, rN, rD]))) (rL (by apply_rules [HO234.out, rN, rD]))) (bZ (by repeat (first | (with_reducible first | exact HB.out | apply bA | apply pN | apply bD | refine bE ?_ GE223.out | refine bE ?_ GE226.out) | exact HB.out)))); have n4_ := aM (blk_below (g := gb223) (o := .cells #[.slice none 0 0, .slice none 0 0] 57 (0, 0)) (by apply_rules [BK223.out, kN, kD, kA]) hb); have n5_ := aM (blk_below (g := gb226) (o := .cells #[.int .i64 ((rd_T40 ((rd_T51 l0 0).f0) a1).f0), .int .i64 ((rd_T40 ((rd_T51 l0 0).f0) a1).f1), .int .i64 ((rd_T40 ((rd_T51 l0 0).f0) a1).f2)] 40 (0, 0)) (by apply_rules [BK226.out, kN, kD, kA]) hb); have n6_ := aM (bS (by repeat (first | (with_reducible first | exact HB.out | apply bA | apply pN | apply bD | refine bE ?_ GE223.out | refine bE ?_ GE226.out) | exact HB.out)) hb); clear HO231 HO234 HO237 BK223 BK226 HB; have HO231 := n0_; have HO234 := n1_; have HO237 := n2_; have HO240 := n3_; have BK223 := n4_; have BK226 := n5_; have HB := n6_; clear n0_ n1_ n2_ n3_ n4_ n5_ n6_
  (try clear hb)
  (try clear hb2)
  (try clear hk)
  (try clear hi)
  (try clear ho0)
  obtain ⟨Ao66, co66, eo66⟩ := Kd.R_slice HO234.out
  (first | subst eo66 | (injection eo66 with f1_ f2_ f3_; have f4_ := f1_.symm; have f5_ := f3_.symm; clear f1_ f2_ f3_; subst f4_; subst f5_))
  obtain ⟨Ao67, co67, eo67⟩ := Kd.R_slice HO240.out
  (first | subst eo67 | (injection eo67 with f1_ f2_ f3_; have f4_ := f1_.symm; have f5_ := f3_.symm; clear f1_ f2_ f3_; subst f4_; subst f5_))
  refine hK.out _ _ ⟨(kC BK226.out 0).trans rfl, (kC BK226.out 1).trans rfl, (kC BK226.out 2).trans rfl, ((HB.out.cell (wL w _ hw227_0)).trans hw227_0), ((HB.out.cell (wL w _ hw227_1)).trans hw227_1), ((HB.out.cell (wL w _ hw227_2)).trans hw227_2), ((HB.out.cell (wL w _ hw228_0)).trans hw228_0)⟩ (fun hHeld => ?_)
  clear hK K
  refine norm_ (a' := ?_) ?_ ?_
  rotate_left
  ·show Act.put _ (some 33) _ = _
   simp only [Act.put, sI, sZ, sS, i64_w]
   rfl
  refine one_ (i := 18) (N := some 34) #[true, true, true, true, true, true, true, true, true, true, true, true, true, true, true, true, true, true, true, false] rfl rfl (one_of HT_.out (by kernel_rfl)) (by decide) (fun K hK => ?_)
  refine goes_ Try.func20 (by kernel_rfl) rfl #[.slice Ao66 t232.length co66, .slice Ao67 t238.length co67] (by rfl) rfl rfl (by (try simp only [mA, mC, mN]); first | done | rfl | (simp only [lD, lT]; rfl)) ?_
  with_reducible refine (nat_Add.calls k _ _ t232 _ _ t238 t241 _ ?side1 ?side2 ?side3 ?side4 A11.out).mono ?_
  (case side1 => repeat (first | exact (rS HO234.out).2.2 | (with_reducible refine cA ?_ _) | (with_reducible refine cN ?_ _) | (with_reducible refine cD ?_)))
  (case side2 => exact (rS HO234.out).2.1)
  (case side3 => repeat (first | exact (rS HO240.out).2.2 | (with_reducible refine cA ?_ _) | (with_reducible refine cN ?_ _) | (with_reducible refine cD ?_)))
  (case side4 => exact (rS HO240.out).2.1)
  rintro e w68 ⟨v242, rfl, ho0, hb⟩
  refine ⟨_, rfl, ?_⟩
  have n0_ := aM (rE (by apply_rules [HO231.out, rN, rD]) (rB ho0) hb); have n1_ := aM (rE (by apply_rules [HO234.out, rN, rD]) (rB ho0) hb); have n2_ := aM (rO (by apply_rules [HO237.out, rN, rD]) hb); have n3_ := aM (rE (by apply_rules [HO240.out, rN, rD]) (rB ho0) hb); have n4_ := aM (Kd.R_lower (rW (rW (rW ho0 (rL (by apply_rules [HO231.out, rN, rD]))) (rL (by apply_rules [HO234.out, rN, rD]))) (rL (by apply_rules [HO240.out, rN, rD]))) (bZ (by repeat (first | (with_reducible first | exact HB.out | apply bA | apply pN | apply bD | refine bE ?_ GE223.out | refine bE ?_ GE226.out) | exact HB.out)))); have n5_ := aM (blk_below (g := gb223) (o := .cells #[.slice none 0 0, .slice none 0 0] 57 (0, 0)) (by apply_rules [BK223.out, kN, kD, kA]) hb); have n6_ := aM (blk_below (g := gb226) (o := .cells #[.int .i64 ((rd_T40 ((rd_T51 l0 0).f0) a1).f0), .int .i64 ((rd_T40 ((rd_T51 l0 0).f0) a1).f1), .int .i64 ((rd_T40 ((rd_T51 l0 0).f0) a1).f2)] 40 (0, 0)) (by apply_rules [BK226.out, kN, kD, kA]) hb); have n7_ := aM (bS (by repeat (first | (with_reducible first | exact HB.out | apply bA | apply pN | apply bD | refine bE ?_ GE223.out | refine bE ?_ GE226.out) | exact HB.out)) hb); clear HO231 HO234 HO237 HO240 BK223 BK226 HB; have HO231 := n0_; have HO234 := n1_; have HO237 := n2_; have HO240 := n3_; have HO243 := n4_; have BK223 := n5_; have BK226 := n6_; have HB := n7_; clear n0_ n1_ n2_ n3_ n4_ n5_ n6_ n7_
  (try clear hb)
  (try clear hb2)
  (try clear hk)
  (try clear hi)
  (try clear ho0)
  refine hK.out _ _ ⟨(kC BK226.out 0).trans rfl, (kC BK226.out 1).trans rfl, (kC BK226.out 2).trans rfl, ((HB.out.cell (wL w _ hw227_0)).trans hw227_0), ((HB.out.cell (wL w _ hw227_1)).trans hw227_1), ((HB.out.cell (wL w _ hw227_2)).trans hw227_2), ((HB.out.cell (wL w _ hw228_0)).trans hw228_0)⟩ (fun hHeld => ?_)
  clear hK K
  refine norm_ (a' := ?_) ?_ ?_
  rotate_left
  ·show Act.put _ (some 34) _ = _
   simp only [Act.put, sI, sZ, sS, i64_w]
   rfl
  refine pure_ (i := 19) (N := some 8) (v := ?_) (a' := ?_) #[true, true, true, true, true, true, true, true, true, true, true, true, true, true, true, true, true, true, true, true] rfl rfl (any_of HT_.out (by kernel_rfl)) (fun _ _ _ h => h) (Or.inl ⟨by rfl, ?_⟩) ?_ ?_
  rotate_left
  ·intro w'
   go_simp
   with_reducible rfl
  rotate_left
  ·simp only [Act.put, sI, sZ, sS, i64_w]
   rfl
  refine done_ (done_of HT_.out (by kernel_rfl)) ?_
  have hcz69_0 : w68.cell? ⟨gb226, 0, none⟩ = some (.int .i64 ((rd_T40 ((rd_T51 l0 0).f0) a1).f0)) := (kC BK226.out 0).trans rfl
  have hcz69_1 : w68.cell? ⟨gb226, 1, none⟩ = some (.int .i64 ((rd_T40 ((rd_T51 l0 0).f0) a1).f1)) := (kC BK226.out 1).trans rfl
  have hcz69_2 : w68.cell? ⟨gb226, 2, none⟩ = some (.int .i64 ((rd_T40 ((rd_T51 l0 0).f0) a1).f2)) := (kC BK226.out 2).trans rfl
  have hfz69_0 := blk_frozen BK226.out 0
  have hfz69_1 := blk_frozen BK226.out 1
  have hfz69_2 := blk_frozen BK226.out 2
  try go_wp2_with (first | ((with_reducible refine gate_dst (N := 59) rfl ?_); refine Kd.R_lit (Kd.int .i64) _ 3 ?hg (N := 59) ?hd (xs := ([wrap64 (((rd_T40 ((rd_T51 l0 0).f0) a1).f1) - ((rd_T40 ((rd_T51 l0 0).f0) a1).f2)), a2, a2] : List Int)) (inner := [.int .i64 (wrap64 (((rd_T40 ((rd_T51 l0 0).f0) a1).f1) - ((rd_T40 ((rd_T51 l0 0).f0) a1).f2))), .int .i64 a2, .int .i64 a2]) (ok := fun _ => True) (okp := fun _ => True) ?hr ?hp (fun _ hk => hk) trivial (Below.refl _ _) (Nat.le_refl _) (by simp) ?_; (case hd => rfl); (case hg => rfl); (case hr => first | (go_simp; done) | (go_simp; rfl)); (case hp => exact (Reps.one (show Kd.M (Kd.int .i64) _ _ _ (wrap64 (((rd_T40 ((rd_T51 l0 0).f0) a1).f1) - ((rd_T40 ((rd_T51 l0 0).f0) a1).f2))) [.int .i64 (wrap64 (((rd_T40 ((rd_T51 l0 0).f0) a1).f1) - ((rd_T40 ((rd_T51 l0 0).f0) a1).f2)))] from rfl) (Reps.one (show Kd.M (Kd.int .i64) _ _ _ a2 [.int .i64 a2] from rfl) (Reps.one (show Kd.M (Kd.int .i64) _ _ _ a2 [.int .i64 a2] from rfl) (Reps.none _ _))))); intro v260 w70 ho71 hb hg_ hnew_; clear hg_ hnew_; (first | rw [← Ny259.out] at ho71 | (simp only [Int.reduceToNat] at ho71; rw [← Ny259.out] at ho71)); have n0_ := aM (rO (by apply_rules [HO231.out, rN, rD]) hb); have n1_ := aM (rO (by apply_rules [HO234.out, rN, rD]) hb); have n2_ := aM (rE (by apply_rules [HO237.out, rN, rD]) (rB ho71) hb); have n3_ := aM (rO (by apply_rules [HO240.out, rN, rD]) hb); have n4_ := aM (rO (by apply_rules [HO243.out, rN, rD]) hb); have n5_ := aM (Kd.R_lower (rW ho71 (rL (by apply_rules [HO237.out, rN, rD]))) (bZ (by repeat (first | (with_reducible first | exact HB.out | apply bA | apply pN | apply bD | refine bE ?_ GE223.out | refine bE ?_ GE226.out) | exact HB.out)))); have n6_ := aM (blk_below (g := gb223) (o := .cells #[.slice none 0 0, .slice none 0 0] 57 (0, 0)) (by apply_rules [BK223.out, kN, kD, kA]) hb); have n7_ := aM (blk_below (g := gb226) (o := .cells #[.int .i64 ((rd_T40 ((rd_T51 l0 0).f0) a1).f0), .int .i64 ((rd_T40 ((rd_T51 l0 0).f0) a1).f1), .int .i64 ((rd_T40 ((rd_T51 l0 0).f0) a1).f2)] 40 (0, 0)) (by apply_rules [BK226.out, kN, kD, kA]) hb); have n8_ := aM (bS (by repeat (first | (with_reducible first | exact HB.out | apply bA | apply pN | apply bD | refine bE ?_ GE223.out | refine bE ?_ GE226.out) | exact HB.out)) hb); clear HO231 HO234 HO237 HO240 HO243 BK223 BK226 HB; have HO231 := n0_; have HO234 := n1_; have HO237 := n2_; have HO240 := n3_; have HO243 := n4_; have HO261 := n5_; have BK223 := n6_; have BK226 := n7_; have HB := n8_; clear n0_ n1_ n2_ n3_ n4_ n5_ n6_ n7_ n8_ hb ho71; obtain ⟨Ao72, co72, eo72⟩ := Kd.R_slice HO261.out; subst eo72) | ((with_reducible refine gC (f := 21) rfl ?_); refine gL (some 60) rfl rfl Try.func21 (by kernel_rfl) rfl #[.slice Ao72 y259.length co72] rfl (by (try simp only [mA, mC, mN]); first | done | rfl | (simp only [lD, lT]; rfl)) ?_; (with_reducible refine (load_product.calls k _ _ y259 t262 _ ?side1 ?side2 A49.out).mono ?_); (case side1 => repeat (first | exact (rS HO261.out).2.2 | (with_reducible refine cA ?_ _) | (with_reducible refine cN ?_ _) | (with_reducible refine cD ?_))); (case side2 => exact (rS HO261.out).2.1); rintro e w73 ⟨v263, rfl, ho0, hb⟩; refine ⟨_, rfl, ?_⟩; have n0_ := aM (rE (by apply_rules [HO231.out, rN, rD]) (rB ho0) hb); have n1_ := aM (rE (by apply_rules [HO234.out, rN, rD]) (rB ho0) hb); have n2_ := aM (rO (by apply_rules [HO237.out, rN, rD]) hb); have n3_ := aM (rE (by apply_rules [HO240.out, rN, rD]) (rB ho0) hb); have n4_ := aM (rE (by apply_rules [HO243.out, rN, rD]) (rB ho0) hb); have n5_ := aM (rO (by apply_rules [HO261.out, rN, rD]) hb); have n6_ := aM (Kd.R_lower (rW (rW (rW (rW ho0 (rL (by apply_rules [HO231.out, rN, rD]))) (rL (by apply_rules [HO234.out, rN, rD]))) (rL (by apply_rules [HO240.out, rN, rD]))) (rL (by apply_rules [HO243.out, rN, rD]))) (bZ (by repeat (first | (with_reducible first | exact HB.out | apply bA | apply pN | apply bD | refine bE ?_ GE223.out | refine bE ?_ GE226.out) | exact HB.out)))); have n7_ := aM (blk_below (g := gb223) (o := .cells #[.slice none 0 0, .slice none 0 0] 57 (0, 0)) (by apply_rules [BK223.out, kN, kD, kA]) hb); have n8_ := aM (blk_below (g := gb226) (o := .cells #[.int .i64 ((rd_T40 ((rd_T51 l0 0).f0) a1).f0), .int .i64 ((rd_T40 ((rd_T51 l0 0).f0) a1).f1), .int .i64 ((rd_T40 ((rd_T51 l0 0).f0) a1).f2)] 40 (0, 0)) (by apply_rules [BK226.out, kN, kD, kA]) hb); have n9_ := aM (bS (by repeat (first | (with_reducible first | exact HB.out | apply bA | apply pN | apply bD | refine bE ?_ GE223.out | refine bE ?_ GE226.out) | exact HB.out)) hb); clear HO231 HO234 HO237 HO240 HO243 HO261 BK223 BK226 HB; have HO231 := n0_; have HO234 := n1_; have HO237 := n2_; have HO240 := n3_; have HO243 := n4_; have HO261 := n5_; have HO264 := n6_; have BK223 := n7_; have BK226 := n8_; have HB := n9_; clear n0_ n1_ n2_ n3_ n4_ n5_ n6_ n7_ n8_ n9_; (try clear hb); (try clear hb2); (try clear hk); (try clear hi); (try clear ho0); obtain ⟨Ao74, co74, eo74⟩ := Kd.R_slice HO243.out; subst eo74; obtain ⟨Ao75, co75, eo75⟩ := Kd.R_slice HO264.out; subst eo75) | ((with_reducible refine gC (f := 41) rfl ?_); refine gL (some 61) rfl rfl Try.func41 (by kernel_rfl) rfl #[.slice Ao74 t241.length co74, .slice Ao75 t262.length co75] rfl (by (try simp only [mA, mC, mN]); first | done | rfl | (simp only [lD, lT]; rfl)) ?_; (with_reducible refine (nat_Sub.calls k _ _ t241 _ _ t262 t265 _ ?side1 ?side2 ?side3 ?side4 A50.out).mono ?_); (case side1 => repeat (first | exact (rS HO243.out).2.2 | (with_reducible refine cA ?_ _) | (with_reducible refine cN ?_ _) | (with_reducible refine cD ?_))); (case side2 => exact (rS HO243.out).2.1); (case side3 => repeat (first | exact (rS HO264.out).2.2 | (with_reducible refine cA ?_ _) | (with_reducible refine cN ?_ _) | (with_reducible refine cD ?_))); (case side4 => exact (rS HO264.out).2.1); rintro e w76 ⟨v266, rfl, ho0, hb⟩; refine ⟨_, rfl, ?_⟩; have n0_ := aM (rE (by apply_rules [HO231.out, rN, rD]) (rB ho0) hb); have n1_ := aM (rE (by apply_rules [HO234.out, rN, rD]) (rB ho0) hb); have n2_ := aM (rO (by apply_rules [HO237.out, rN, rD]) hb); have n3_ := aM (rE (by apply_rules [HO240.out, rN, rD]) (rB ho0) hb); have n4_ := aM (rE (by apply_rules [HO243.out, rN, rD]) (rB ho0) hb); have n5_ := aM (rO (by apply_rules [HO261.out, rN, rD]) hb); have n6_ := aM (rE (by apply_rules [HO264.out, rN, rD]) (rB ho0) hb); have n7_ := aM (Kd.R_lower (rW (rW (rW (rW (rW ho0 (rL (by apply_rules [HO231.out, rN, rD]))) (rL (by apply_rules [HO234.out, rN, rD]))) (rL (by apply_rules [HO240.out, rN, rD]))) (rL (by apply_rules [HO243.out, rN, rD]))) (rL (by apply_rules [HO264.out, rN, rD]))) (bZ (by repeat (first | (with_reducible first | exact HB.out | apply bA | apply pN | apply bD | refine bE ?_ GE223.out | refine bE ?_ GE226.out) | exact HB.out)))); have n8_ := aM (blk_below (g := gb223) (o := .cells #[.slice none 0 0, .slice none 0 0] 57 (0, 0)) (by apply_rules [BK223.out, kN, kD, kA]) hb); have n9_ := aM (blk_below (g := gb226) (o := .cells #[.int .i64 ((rd_T40 ((rd_T51 l0 0).f0) a1).f0), .int .i64 ((rd_T40 ((rd_T51 l0 0).f0) a1).f1), .int .i64 ((rd_T40 ((rd_T51 l0 0).f0) a1).f2)] 40 (0, 0)) (by apply_rules [BK226.out, kN, kD, kA]) hb); have n10_ := aM (bS (by repeat (first | (with_reducible first | exact HB.out | apply bA | apply pN | apply bD | refine bE ?_ GE223.out | refine bE ?_ GE226.out) | exact HB.out)) hb); clear HO231 HO234 HO237 HO240 HO243 HO261 HO264 BK223 BK226 HB; have HO231 := n0_; have HO234 := n1_; have HO237 := n2_; have HO240 := n3_; have HO243 := n4_; have HO261 := n5_; have HO264 := n6_; have HO267 := n7_; have BK223 := n8_; have BK226 := n9_; have HB := n10_; clear n0_ n1_ n2_ n3_ n4_ n5_ n6_ n7_ n8_ n9_ n10_; (try clear hb); (try clear hb2); (try clear hk); (try clear hi); (try clear ho0); have hcz77_0 : w76.cell? ⟨gb226, 0, none⟩ = some (.int .i64 ((rd_T40 ((rd_T51 l0 0).f0) a1).f0)) := (kC BK226.out 0).trans rfl; have hcz77_1 : w76.cell? ⟨gb226, 1, none⟩ = some (.int .i64 ((rd_T40 ((rd_T51 l0 0).f0) a1).f1)) := (kC BK226.out 1).trans rfl; have hcz77_2 : w76.cell? ⟨gb226, 2, none⟩ = some (.int .i64 ((rd_T40 ((rd_T51 l0 0).f0) a1).f2)) := (kC BK226.out 2).trans rfl; have hfz77_0 := blk_frozen BK226.out 0; have hfz77_1 := blk_frozen BK226.out 1; have hfz77_2 := blk_frozen BK226.out 2) | ((with_reducible refine gate_dst (N := 65) rfl ?_); refine Kd.R_lit (Kd.int .i64) _ 3 ?hg (N := 65) ?hd (xs := ([2, (rd_T40 ((rd_T51 l0 0).f0) a1).f0, 1000000000] : List Int)) (inner := [.int .i64 2, .int .i64 ((rd_T40 ((rd_T51 l0 0).f0) a1).f0), .int .i64 1000000000]) (ok := fun _ => True) (okp := fun _ => True) ?hr ?hp (fun _ hk => hk) trivial (Below.refl _ _) (Nat.le_refl _) (by simp) ?_; (case hd => rfl); (case hg => rfl); (case hr => first | (go_simp; done) | (go_simp; rfl)); (case hp => exact (Reps.one (show Kd.M (Kd.int .i64) _ _ _ 2 [.int .i64 2] from rfl) (Reps.one (show Kd.M (Kd.int .i64) _ _ _ ((rd_T40 ((rd_T51 l0 0).f0) a1).f0) [.int .i64 ((rd_T40 ((rd_T51 l0 0).f0) a1).f0)] from rfl) (Reps.one (show Kd.M (Kd.int .i64) _ _ _ 1000000000 [.int .i64 1000000000] from rfl) (Reps.none _ _))))); intro v269 w78 ho79 hb hg_ hnew_; clear hg_ hnew_; (first | rw [← Ny268.out] at ho79 | (simp only [Int.reduceToNat] at ho79; rw [← Ny268.out] at ho79)); have n0_ := aM (rO (by apply_rules [HO231.out, rN, rD]) hb); have n1_ := aM (rO (by apply_rules [HO234.out, rN, rD]) hb); have n2_ := aM (rE (by apply_rules [HO237.out, rN, rD]) (rB ho79) hb); have n3_ := aM (rO (by apply_rules [HO240.out, rN, rD]) hb); have n4_ := aM (rO (by apply_rules [HO243.out, rN, rD]) hb); have n5_ := aM (rE (by apply_rules [HO261.out, rN, rD]) (rB ho79) hb); have n6_ := aM (rO (by apply_rules [HO264.out, rN, rD]) hb); have n7_ := aM (rO (by apply_rules [HO267.out, rN, rD]) hb); have n8_ := aM (Kd.R_lower (rW (rW ho79 (rL (by apply_rules [HO237.out, rN, rD]))) (rL (by apply_rules [HO261.out, rN, rD]))) (bZ (by repeat (first | (with_reducible first | exact HB.out | apply bA | apply pN | apply bD | refine bE ?_ GE223.out | refine bE ?_ GE226.out) | exact HB.out)))); have n9_ := aM (blk_below (g := gb223) (o := .cells #[.slice none 0 0, .slice none 0 0] 57 (0, 0)) (by apply_rules [BK223.out, kN, kD, kA]) hb); have n10_ := aM (blk_below (g := gb226) (o := .cells #[.int .i64 ((rd_T40 ((rd_T51 l0 0).f0) a1).f0), .int .i64 ((rd_T40 ((rd_T51 l0 0).f0) a1).f1), .int .i64 ((rd_T40 ((rd_T51 l0 0).f0) a1).f2)] 40 (0, 0)) (by apply_rules [BK226.out, kN, kD, kA]) hb); have n11_ := aM (bS (by repeat (first | (with_reducible first | exact HB.out | apply bA | apply pN | apply bD | refine bE ?_ GE223.out | refine bE ?_ GE226.out) | exact HB.out)) hb); clear HO231 HO234 HO237 HO240 HO243 HO261 HO264 HO267 BK223 BK226 HB; have HO231 := n0_; have HO234 := n1_; have HO237 := n2_; have HO240 := n3_; have HO243 := n4_; have HO261 := n5_; have HO264 := n6_; have HO267 := n7_; have HO270 := n8_; have BK223 := n9_; have BK226 := n10_; have HB := n11_; clear n0_ n1_ n2_ n3_ n4_ n5_ n6_ n7_ n8_ n9_ n10_ n11_ hb ho79; obtain ⟨Ao80, co80, eo80⟩ := Kd.R_slice HO270.out; subst eo80) | ((with_reducible refine gC (f := 21) rfl ?_); refine gL (some 66) rfl rfl Try.func21 (by kernel_rfl) rfl #[.slice Ao80 y268.length co80] rfl (by (try simp only [mA, mC, mN]); first | done | rfl | (simp only [lD, lT]; rfl)) ?_; (with_reducible refine (load_product.calls k _ _ y268 t271 _ ?side1 ?side2 A51.out).mono ?_); (case side1 => repeat (first | exact (rS HO270.out).2.2 | (with_reducible refine cA ?_ _) | (with_reducible refine cN ?_ _) | (with_reducible refine cD ?_))); (case side2 => exact (rS HO270.out).2.1); rintro e w81 ⟨v272, rfl, ho0, hb⟩; refine ⟨_, rfl, ?_⟩; have n0_ := aM (rE (by apply_rules [HO231.out, rN, rD]) (rB ho0) hb); have n1_ := aM (rE (by apply_rules [HO234.out, rN, rD]) (rB ho0) hb); have n2_ := aM (rO (by apply_rules [HO237.out, rN, rD]) hb); have n3_ := aM (rE (by apply_rules [HO240.out, rN, rD]) (rB ho0) hb); have n4_ := aM (rE (by apply_rules [HO243.out, rN, rD]) (rB ho0) hb); have n5_ := aM (rO (by apply_rules [HO261.out, rN, rD]) hb); have n6_ := aM (rE (by apply_rules [HO264.out, rN, rD]) (rB ho0) hb); have n7_ := aM (rE (by apply_rules [HO267.out, rN, rD]) (rB ho0) hb); have n8_ := aM (rO (by apply_rules [HO270.out, rN, rD]) hb); have n9_ := aM (Kd.R_lower (rW (rW (rW (rW (rW (rW ho0 (rL (by apply_rules [HO231.out, rN, rD]))) (rL (by apply_rules [HO234.out, rN, rD]))) (rL (by apply_rules [HO240.out, rN, rD]))) (rL (by apply_rules [HO243.out, rN, rD]))) (rL (by apply_rules [HO264.out, rN, rD]))) (rL (by apply_rules [HO267.out, rN, rD]))) (bZ (by repeat (first | (with_reducible first | exact HB.out | apply bA | apply pN | apply bD | refine bE ?_ GE223.out | refine bE ?_ GE226.out) | exact HB.out)))); have n10_ := aM (blk_below (g := gb223) (o := .cells #[.slice none 0 0, .slice none 0 0] 57 (0, 0)) (by apply_rules [BK223.out, kN, kD, kA]) hb); have n11_ := aM (blk_below (g := gb226) (o := .cells #[.int .i64 ((rd_T40 ((rd_T51 l0 0).f0) a1).f0), .int .i64 ((rd_T40 ((rd_T51 l0 0).f0) a1).f1), .int .i64 ((rd_T40 ((rd_T51 l0 0).f0) a1).f2)] 40 (0, 0)) (by apply_rules [BK226.out, kN, kD, kA]) hb); have n12_ := aM (bS (by repeat (first | (with_reducible first | exact HB.out | apply bA | apply pN | apply bD | refine bE ?_ GE223.out | refine bE ?_ GE226.out) | exact HB.out)) hb); clear HO231 HO234 HO237 HO240 HO243 HO261 HO264 HO267 HO270 BK223 BK226 HB; have HO231 := n0_; have HO234 := n1_; have HO237 := n2_; have HO240 := n3_; have HO243 := n4_; have HO261 := n5_; have HO264 := n6_; have HO267 := n7_; have HO270 := n8_; have HO273 := n9_; have BK223 := n10_; have BK226 := n11_; have HB := n12_; clear n0_ n1_ n2_ n3_ n4_ n5_ n6_ n7_ n8_ n9_ n10_ n11_ n12_; (try clear hb); (try clear hb2); (try clear hk); (try clear hi); (try clear ho0); obtain ⟨Ao82, co82, eo82⟩ := Kd.R_slice HO273.out; subst eo82; obtain ⟨Ao83, co83, eo83⟩ := Kd.R_slice HO267.out; subst eo83; have hcz84_0 : w81.cell? ⟨gb223, 0, none⟩ = some (.slice none 0 0) := (kC BK223.out 0).trans rfl; have hcz84_1 : w81.cell? ⟨gb223, 1, none⟩ = some (.slice none 0 0) := (kC BK223.out 1).trans rfl; have hfz84_0 := blk_frozen BK223.out 0; have hfz84_1 := blk_frozen BK223.out 1))
  refine bodyPost_ret (results_cell_row rfl _ _ gb223 57 #[.slice Ao83 t265.length co83, .slice Ao82 t271.length co82] (0, 0) _ rfl (by (with_reducible repeat (first | refine kN ?_ _ | refine kD ?_ | refine kA ?_ _)); refine blk_put (cs := #[.slice Ao83 t265.length co83, .slice none 0 0]) ?_ 1 _ rfl; (with_reducible repeat (first | refine kN ?_ _ | refine kD ?_ | refine kA ?_ _)); refine blk_put (cs := #[.slice none 0 0, .slice none 0 0]) ?_ 0 _ rfl; (with_reducible repeat (first | refine kN ?_ _ | refine kD ?_ | refine kA ?_ _)); exact BK223.out) Try.underlying57 rfl (by kernel_rfl)) rfl ?_
  exact ⟨_, _, by first | rfl | (simp [errW_none, errW_some] <;> rfl) | (simp [*, errW_none, errW_some] <;> rfl), by (with_reducible repeat (first | apply rN | apply rD)); exact Kd.R_mono (Kd.R_far (p := ⟨gb223, 1, none⟩) (Kd.R_far (p := ⟨gb223, 0, none⟩) (Kd.R_types HO267.out BK223.out (by decide)) (fun _ hk => hk.2) (.slice Ao83 t265.length co83)) (fun _ hk => hk.2) (.slice Ao82 t271.length co82)) (fun _ hk => hk.1.2), by (with_reducible repeat (first | apply rN | apply rD)); exact Kd.R_mono (Kd.R_far (p := ⟨gb223, 1, none⟩) (Kd.R_far (p := ⟨gb223, 0, none⟩) (Kd.R_types HO273.out BK223.out (by decide)) (fun _ hk => hk.2) (.slice Ao83 t265.length co83)) (fun _ hk => hk.2) (.slice Ao82 t271.length co82)) (fun _ hk => hk.1.2), by repeat (first | (with_reducible first | exact HB.out | apply bA | apply pN | apply bD | refine bE ?_ GE223.out | refine bE ?_ GE226.out) | exact HB.out)⟩
end Go.Proofs.Ytaoekkikpceccaa.QLoadAdmitKeepsTheLimit
