/- Lean functions that answer as Go functions of this seat do, each with its proof. Condition: the Lean function answers 'some'. -/
import Derived.Test.YtaoekkikpceccaaLx0
import Derived.Test.YtaoekkikpceccaaLx4
import Derived.Test.YtaoekkikpceccaaLx5
import Derived.Test.YtaoekkikpceccaaLx6
import Derived.Test.YtaoekkikpceccaaLx7
import Derived.Test.YtaoekkikpceccaaLx16
import Derived.Test.YtaoekkikpceccaaLx17
namespace Go.Proofs.Ytaoekkikpceccaa.QLoadAdmitKeepsTheLimit
open Go.RowKit Go.Proofs.YtaoekkikpceccaaW.PrintWords Go.Proofs.YtaoekkikpceccaaW.PrintLast Go.Proofs.YtaoekkikpceccaaW.PrintMore
attribute [local go_sem] max2_int min2_int max_two min_two
set_option linter.unusedVariables false
set_option maxHeartbeats 8000000
set_option maxRecDepth 100000
set_option linter.unusedSimpArgs false
def load_line_arrival.f (k : Nat) (l0 : List (S51)) (a1 : Int) : Option (Int × Bool) := (load_product.f k (([2, a1] : List Int))).bind fun t451 => ((nat_Of.f 1).bind fun t454 => ((nat_Add.f k t451 t454).bind fun t457 => ((nat_Of.f 2).bind fun t460 => ((load_line_first.f k l0 t457 t460).bind fun bt463 => (some (bt463.1, bt463.2))))))
theorem load_line_arrival.mono : ∀ a0 a1 k, LeO (load_line_arrival.f k a0 a1) (load_line_arrival.f (k + 1) a0 a1) := by
 intro a0 a1 k
 unfold load_line_arrival.f
 repeat' first
   | (with_reducible exact load_line_first.mono _ _ _ _)
   | (with_reducible exact load_product.mono _ _)
   | (with_reducible exact nat_Add.mono _ _ _)
   | (with_reducible exact LeO.refl _)
   | (with_reducible exact LeO.none _)
   | (with_reducible refine LeO.ite ?_ ?_)
   | (with_reducible refine LeO.bind ?_ (fun _ => ?_))
theorem load_line_arrival.calls (k : Nat) (A0 : Option Addr) (c0 : Nat) (l0 : List (S51)) (a1 : Int) (r1 : Int) (r2 : Bool) (w : World) (hr0 : Kd.C k51 w A0 l0.length l0) (hc0 : l0.length ≤ c0) (h : load_line_arrival.f k l0 a1 = some (r1, r2)) :
  Calls Try.prog 18 #[.pointer A0, .int .i64 a1] w fun e w' => e = .returned (.tuple #[.int .i64 r1, .bool r2]) ∧ Below w.heap.size w w' := by
 have hu57 := Try.underlying57
 have HR0 := aM hr0
 have HC0 := aM hc0
 clear hr0 hc0
 have HB := aM (Below.refl w.heap.size w)
 have H : ((load_product.f k (([2, a1] : List Int))).bind fun t451 => ((nat_Of.f 1).bind fun t454 => ((nat_Add.f k t451 t454).bind fun t457 => ((nat_Of.f 2).bind fun t460 => ((load_line_first.f k l0 t457 t460).bind fun bt463 => (some (bt463.1, bt463.2))))))) = some (r1, r2) := h
 clear h
 obtain ⟨y448, hy448⟩ : ∃ y_ : List Int, y_ = (([2, a1] : List Int)) := ⟨_, rfl⟩
 replace H : ((load_product.f k y448).bind fun t451 => ((nat_Of.f 1).bind fun t454 => ((nat_Add.f k t451 t454).bind fun t457 => ((nat_Of.f 2).bind fun t460 => ((load_line_first.f k l0 t457 t460).bind fun bt463 => (some (bt463.1, bt463.2))))))) = some (r1, r2) := by first | (rw [hy448]; exact H) | exact H
 have Ny448 := aM hy448
 clear hy448
 replace H := oB H
 obtain ⟨t451, A30, H⟩ := H
 replace H : ((nat_Of.f 1).bind fun t454 => ((nat_Add.f k t451 t454).bind fun t457 => ((nat_Of.f 2).bind fun t460 => ((load_line_first.f k l0 t457 t460).bind fun bt463 => (some (bt463.1, bt463.2)))))) = some (r1, r2) := H
 have A3 := aM A30; clear A30
 replace H := oB H
 obtain ⟨t454, A40, H⟩ := H
 replace H : ((nat_Add.f k t451 t454).bind fun t457 => ((nat_Of.f 2).bind fun t460 => ((load_line_first.f k l0 t457 t460).bind fun bt463 => (some (bt463.1, bt463.2))))) = some (r1, r2) := H
 have A4 := aM A40; clear A40
 replace H := oB H
 obtain ⟨t457, A50, H⟩ := H
 replace H : ((nat_Of.f 2).bind fun t460 => ((load_line_first.f k l0 t457 t460).bind fun bt463 => (some (bt463.1, bt463.2)))) = some (r1, r2) := H
 have A5 := aM A50; clear A50
 replace H := oB H
 obtain ⟨t460, A60, H⟩ := H
 replace H : ((load_line_first.f k l0 t457 t460).bind fun bt463 => (some (bt463.1, bt463.2))) = some (r1, r2) := H
 have A6 := aM A60; clear A60
 replace H := oB H
 obtain ⟨⟨t463, t464⟩, A70, H⟩ := H
 replace H : (some (t463, t464)) = some (r1, r2) := H
 have A7 := aM A70; clear A70
 simp only [Option.some.injEq, Prod.mk.injEq] at H
 obtain ⟨rfl, rfl⟩ := H
 go_enter Try.func18, Try.ntmps18
 go_wp2_with (first | ((with_reducible refine gate_dst (N := 8) rfl ?_); refine Kd.R_lit (Kd.int .i64) _ 3 ?hg (N := 8) ?hd (xs := ([2, a1] : List Int)) (inner := [.int .i64 2, .int .i64 a1]) (ok := fun _ => True) (okp := fun _ => True) ?hr ?hp (fun _ hk => hk) trivial (Below.refl _ _) (Nat.le_refl _) (by simp) ?_; (case hd => rfl); (case hg => rfl); (case hr => first | (go_simp; done) | (go_simp; rfl)); (case hp => exact (Reps.one (show Kd.M (Kd.int .i64) _ _ _ 2 [.int .i64 2] from rfl) (Reps.one (show Kd.M (Kd.int .i64) _ _ _ a1 [.int .i64 a1] from rfl) (Reps.none _ _)))); intro v449 w8 ho9 hb hg_ hnew_; clear hg_ hnew_; (first | rw [← Ny448.out] at ho9 | (simp only [Int.reduceToNat] at ho9; rw [← Ny448.out] at ho9)); have n0_ := aM (Kd.R_lower ho9 (bZ (by apply_rules [HB.out, bA, pN, bD]))); have n1_ := aM (bS (by apply_rules [HB.out, bA, pN, bD]) hb); clear HB; have HO450 := n0_; have HB := n1_; clear n0_ n1_ hb ho9; obtain ⟨Ao10, co10, eo10⟩ := Kd.R_slice HO450.out; subst eo10) | ((with_reducible refine gC (f := 21) rfl ?_); refine gL (some 9) rfl rfl Try.func21 (by kernel_rfl) rfl #[.slice Ao10 y448.length co10] rfl (by (try simp only [mA, mC, mN]); first | done | rfl | (simp only [lD, lT]; rfl)) ?_; (with_reducible refine (load_product.calls k _ _ y448 t451 _ ?side1 ?side2 A3.out).mono ?_); (case side1 => repeat (first | exact (rS HO450.out).2.2 | (with_reducible refine cA ?_ _) | (with_reducible refine cN ?_ _) | (with_reducible refine cD ?_))); (case side2 => exact (rS HO450.out).2.1); rintro e w11 ⟨v452, rfl, ho0, hb⟩; refine ⟨_, rfl, ?_⟩; have n0_ := aM (rO (by apply_rules [HO450.out, rN, rD]) hb); have n1_ := aM (Kd.R_lower ho0 (bZ (by apply_rules [HB.out, bA, pN, bD]))); have n2_ := aM (bS (by apply_rules [HB.out, bA, pN, bD]) hb); clear HO450 HB; have HO450 := n0_; have HO453 := n1_; have HB := n2_; clear n0_ n1_ n2_; (try clear hb); (try clear hb2); (try clear hk); (try clear hi); (try clear ho0)) | ((with_reducible refine gC (f := 27) rfl ?_); refine gL (some 10) rfl rfl Try.func27 (by kernel_rfl) rfl #[.int .i64 1] rfl (by (try simp only [mA, mC, mN]); first | done | rfl | (simp only [lD, lT]; rfl)) ?_; (with_reducible refine (nat_Of.calls 1 t454 _ A4.out).mono ?_); rintro e w12 ⟨v455, rfl, ho0, hb⟩; refine ⟨_, rfl, ?_⟩; have n0_ := aM (rO (by apply_rules [HO450.out, rN, rD]) hb); have n1_ := aM (rE (by apply_rules [HO453.out, rN, rD]) (rB ho0) hb); have n2_ := aM (Kd.R_lower (rW ho0 (rL (by apply_rules [HO453.out, rN, rD]))) (bZ (by apply_rules [HB.out, bA, pN, bD]))); have n3_ := aM (bS (by apply_rules [HB.out, bA, pN, bD]) hb); clear HO450 HO453 HB; have HO450 := n0_; have HO453 := n1_; have HO456 := n2_; have HB := n3_; clear n0_ n1_ n2_ n3_; (try clear hb); (try clear hb2); (try clear hk); (try clear hi); (try clear ho0); obtain ⟨Ao13, co13, eo13⟩ := Kd.R_slice HO453.out; subst eo13; obtain ⟨Ao14, co14, eo14⟩ := Kd.R_slice HO456.out; subst eo14) | ((with_reducible refine gC (f := 20) rfl ?_); refine gL (some 11) rfl rfl Try.func20 (by kernel_rfl) rfl #[.slice Ao13 t451.length co13, .slice Ao14 t454.length co14] rfl (by (try simp only [mA, mC, mN]); first | done | rfl | (simp only [lD, lT]; rfl)) ?_; (with_reducible refine (nat_Add.calls k _ _ t451 _ _ t454 t457 _ ?side1 ?side2 ?side3 ?side4 A5.out).mono ?_); (case side1 => repeat (first | exact (rS HO453.out).2.2 | (with_reducible refine cA ?_ _) | (with_reducible refine cN ?_ _) | (with_reducible refine cD ?_))); (case side2 => exact (rS HO453.out).2.1); (case side3 => repeat (first | exact (rS HO456.out).2.2 | (with_reducible refine cA ?_ _) | (with_reducible refine cN ?_ _) | (with_reducible refine cD ?_))); (case side4 => exact (rS HO456.out).2.1); rintro e w15 ⟨v458, rfl, ho0, hb⟩; refine ⟨_, rfl, ?_⟩; have n0_ := aM (rO (by apply_rules [HO450.out, rN, rD]) hb); have n1_ := aM (rE (by apply_rules [HO453.out, rN, rD]) (rB ho0) hb); have n2_ := aM (rE (by apply_rules [HO456.out, rN, rD]) (rB ho0) hb); have n3_ := aM (Kd.R_lower (rW (rW ho0 (rL (by apply_rules [HO453.out, rN, rD]))) (rL (by apply_rules [HO456.out, rN, rD]))) (bZ (by apply_rules [HB.out, bA, pN, bD]))); have n4_ := aM (bS (by apply_rules [HB.out, bA, pN, bD]) hb); clear HO450 HO453 HO456 HB; have HO450 := n0_; have HO453 := n1_; have HO456 := n2_; have HO459 := n3_; have HB := n4_; clear n0_ n1_ n2_ n3_ n4_; (try clear hb); (try clear hb2); (try clear hk); (try clear hi); (try clear ho0)) | ((with_reducible refine gC (f := 27) rfl ?_); refine gL (some 12) rfl rfl Try.func27 (by kernel_rfl) rfl #[.int .i64 2] rfl (by (try simp only [mA, mC, mN]); first | done | rfl | (simp only [lD, lT]; rfl)) ?_; (with_reducible refine (nat_Of.calls 2 t460 _ A6.out).mono ?_); rintro e w16 ⟨v461, rfl, ho0, hb⟩; refine ⟨_, rfl, ?_⟩; have n0_ := aM (rO (by apply_rules [HO450.out, rN, rD]) hb); have n1_ := aM (rE (by apply_rules [HO453.out, rN, rD]) (rB ho0) hb); have n2_ := aM (rE (by apply_rules [HO456.out, rN, rD]) (rB ho0) hb); have n3_ := aM (rE (by apply_rules [HO459.out, rN, rD]) (rB ho0) hb); have n4_ := aM (Kd.R_lower (rW (rW (rW ho0 (rL (by apply_rules [HO453.out, rN, rD]))) (rL (by apply_rules [HO456.out, rN, rD]))) (rL (by apply_rules [HO459.out, rN, rD]))) (bZ (by apply_rules [HB.out, bA, pN, bD]))); have n5_ := aM (bS (by apply_rules [HB.out, bA, pN, bD]) hb); clear HO450 HO453 HO456 HO459 HB; have HO450 := n0_; have HO453 := n1_; have HO456 := n2_; have HO459 := n3_; have HO462 := n4_; have HB := n5_; clear n0_ n1_ n2_ n3_ n4_ n5_; (try clear hb); (try clear hb2); (try clear hk); (try clear hi); (try clear ho0); obtain ⟨Ao17, co17, eo17⟩ := Kd.R_slice HO462.out; subst eo17; obtain ⟨Ao18, co18, eo18⟩ := Kd.R_slice HO459.out; subst eo18) | ((with_reducible refine gC (f := 26) rfl ?_); refine gL (some 14) rfl rfl Try.func26 (by kernel_rfl) rfl #[.pointer A0, .agg #[.slice Ao18 t457.length co18, .slice Ao17 t460.length co17]] rfl (by (try simp only [mA, mC, mN]); first | done | rfl | (simp only [lD, lT]; rfl)) ?_; (with_reducible refine (load_line_first.calls k _ c0 l0 _ _ t457 _ _ t460 t463 t464 _ ?side1 ?side2 ?side3 ?side4 ?side5 ?side6 A7.out).mono ?_); (case side1 => repeat (first | exact (Kd.C_below HR0.out HB.out) | (with_reducible refine cA ?_ _) | (with_reducible refine cN ?_ _) | (with_reducible refine cD ?_))); (case side2 => exact HC0.out); (case side3 => repeat (first | exact (rS HO459.out).2.2 | (with_reducible refine cA ?_ _) | (with_reducible refine cN ?_ _) | (with_reducible refine cD ?_))); (case side4 => exact (rS HO459.out).2.1); (case side5 => repeat (first | exact (rS HO462.out).2.2 | (with_reducible refine cA ?_ _) | (with_reducible refine cN ?_ _) | (with_reducible refine cD ?_))); (case side6 => exact (rS HO462.out).2.1); rintro e w19 ⟨rfl, hb⟩; refine ⟨_, rfl, ?_⟩; have n0_ := aM (rO (by apply_rules [HO450.out, rN, rD]) hb); have n1_ := aM (rO (by apply_rules [HO453.out, rN, rD]) hb); have n2_ := aM (rO (by apply_rules [HO456.out, rN, rD]) hb); have n3_ := aM (rO (by apply_rules [HO459.out, rN, rD]) hb); have n4_ := aM (rO (by apply_rules [HO462.out, rN, rD]) hb); have n5_ := aM (bS (by apply_rules [HB.out, bA, pN, bD]) hb); clear HO450 HO453 HO456 HO459 HO462 HB; have HO450 := n0_; have HO453 := n1_; have HO456 := n2_; have HO459 := n3_; have HO462 := n4_; have HB := n5_; clear n0_ n1_ n2_ n3_ n4_ n5_; (try clear hb); (try clear hb2); (try clear hk); (try clear hi)))
 go_ret2
 exact ⟨by first | rfl | (simp [errW_none, errW_some] <;> rfl) | (simp [*, errW_none, errW_some] <;> rfl), by apply_rules [HB.out, bA, pN, bD]⟩
def load_Even.l0 : Nat → List (S51) → List Int → Int → Int → Option (List Int × Int)
 | 0, _, _, _, _ => none
 | k + 1, x5, x7, x24, x25 => if x25 < x24 then ((load_line_arrival.f k x5 x25).bind fun bt473 => (if x7.length < 17592186044416 then (load_Even.l0 k x5 (x7 ++ [bt473.1]) x24 (wrap64 (x25 + 1))) else (none))) else (some (x7, 0))
def load_Even.f (k : Nat) (l0 : List (S40)) : Option (List Int × Int) := (load_Check.f k l0).bind fun t465 => (if t465 = 0 then ((load_newLine.f k l0).bind fun t466 => ((load_line_before.f k t466 1000000000001).bind fun t469 => (if t469 > 20000 then (some (([] : List Int), 3)) else (if 0 ≤ t469 then (if (t469 : Int).toNat ≤ 35184372088832 then (load_Even.l0 k t466 (([] : List Int)) t469 0) else (none)) else (none))))) else (some (([] : List Int), t465)))
theorem load_Even.mono_l : ∀ k, (∀ y0 y1 y2 y3, LeO (load_Even.l0 k y0 y1 y2 y3) (load_Even.l0 (k + 1) y0 y1 y2 y3))
 | 0 => fun _ _ _ _ r h => by simp [load_Even.l0] at h
 | k + 1 => by
  have ih0 := load_Even.mono_l k
  ·intro y0 y1 y2 y3
   unfold load_Even.l0
   repeat' first
   | (with_reducible exact ih0 _ _ _ _)
   | (with_reducible exact load_Check.mono _ _)
   | (with_reducible exact load_line_arrival.mono _ _ _)
   | (with_reducible exact load_line_before.mono _ _ _)
   | (with_reducible exact load_newLine.mono _ _)
   | (with_reducible exact LeO.refl _)
   | (with_reducible exact LeO.none _)
   | (with_reducible refine LeO.ite ?_ ?_)
   | (with_reducible refine LeO.bind ?_ (fun _ => ?_))
theorem load_Even.mono : ∀ a0 k, LeO (load_Even.f k a0) (load_Even.f (k + 1) a0) := by
 intro a0 k
 have ih0 := load_Even.mono_l k
 unfold load_Even.f
 repeat' first
   | (with_reducible exact ih0 _ _ _ _)
   | (with_reducible exact load_Check.mono _ _)
   | (with_reducible exact load_line_arrival.mono _ _ _)
   | (with_reducible exact load_line_before.mono _ _ _)
   | (with_reducible exact load_newLine.mono _ _)
   | (with_reducible exact LeO.refl _)
   | (with_reducible exact LeO.none _)
   | (with_reducible refine LeO.ite ?_ ?_)
   | (with_reducible refine LeO.bind ?_ (fun _ => ?_))
theorem load_Even.calls (k : Nat) (A0 : Option Addr) (c0 : Nat) (l0 : List (S40)) (r1 : List Int) (r2 : Int) (w : World) (hr0 : Kd.C k40 w A0 l0.length l0) (hc0 : l0.length ≤ c0) (h : load_Even.f k l0 = some (r1, r2)) :
  Calls Try.prog 12 #[.slice A0 l0.length c0] w fun e w' => ∃ v0_ : Value, e = .returned (.tuple #[v0_, .int .i64 r2]) ∧ Kd.R (Kd.int .i64) 3 w' w.heap.size (fun _ => True) v0_ r1 ∧ Below w.heap.size w w' := by
 have HR0 := aM hr0
 have HC0 := aM hc0
 clear hr0 hc0
 have HB := aM (Below.refl w.heap.size w)
 have H : ((load_Check.f k l0).bind fun t465 => (if t465 = 0 then ((load_newLine.f k l0).bind fun t466 => ((load_line_before.f k t466 1000000000001).bind fun t469 => (if t469 > 20000 then (some (([] : List Int), 3)) else (if 0 ≤ t469 then (if (t469 : Int).toNat ≤ 35184372088832 then (load_Even.l0 k t466 (([] : List Int)) t469 0) else (none)) else (none))))) else (some (([] : List Int), t465)))) = some (r1, r2) := h
 clear h
 replace H := oB H
 obtain ⟨t465, A20, H⟩ := H
 replace H : (if t465 = 0 then ((load_newLine.f k l0).bind fun t466 => ((load_line_before.f k t466 1000000000001).bind fun t469 => (if t469 > 20000 then (some (([] : List Int), 3)) else (if 0 ≤ t469 then (if (t469 : Int).toNat ≤ 35184372088832 then (load_Even.l0 k t466 (([] : List Int)) t469 0) else (none)) else (none))))) else (some (([] : List Int), t465))) = some (r1, r2) := H
 have A2 := aM A20; clear A20
 by_cases c3 : t465 = 0
 ·rw [if_pos c3] at H
  have c3b0 : (t465 == 0) = true := beq_iff_eq.mpr c3
  have c3b1 : (t465 != 0) = false := bne_eq_false_iff_eq.mpr c3
  clear c3
  replace H := oB H
  obtain ⟨t466, A40, H⟩ := H
  replace H : ((load_line_before.f k t466 1000000000001).bind fun t469 => (if t469 > 20000 then (some (([] : List Int), 3)) else (if 0 ≤ t469 then (if (t469 : Int).toNat ≤ 35184372088832 then (load_Even.l0 k t466 (([] : List Int)) t469 0) else (none)) else (none)))) = some (r1, r2) := H
  have A4 := aM A40; clear A40
  replace H := oB H
  obtain ⟨t469, A50, H⟩ := H
  replace H : (if t469 > 20000 then (some (([] : List Int), 3)) else (if 0 ≤ t469 then (if (t469 : Int).toNat ≤ 35184372088832 then (load_Even.l0 k t466 (([] : List Int)) t469 0) else (none)) else (none))) = some (r1, r2) := H
  have A5 := aM A50; clear A50
  by_cases c6 : t469 > 20000
  ·rw [if_pos c6] at H
   have c6b0 : decide (20000 < t469) = true := dT c6
   clear c6
   simp only [Option.some.injEq, Prod.mk.injEq] at H
   obtain ⟨rfl, rfl⟩ := H
   go_enter Try.func12, Try.ntmps12
   go_wp2_with (first | ((with_reducible refine gC (f := 15) rfl ?_); refine gL (some 12) rfl rfl Try.func15 (by kernel_rfl) rfl #[.slice A0 l0.length c0] rfl (by (try simp only [mA, mC, mN]); first | done | rfl | (simp only [lD, lT]; rfl)) ?_; (with_reducible refine (load_Check.calls k _ _ l0 t465 _ ?side1 ?side2 A2.out).mono ?_); (case side1 => repeat (first | exact HR0.out | (with_reducible refine cA ?_ _) | (with_reducible refine cN ?_ _) | (with_reducible refine cD ?_))); (case side2 => exact HC0.out); rintro e w7 ⟨rfl, hb⟩; refine ⟨_, rfl, ?_⟩; have n0_ := aM (bS (by apply_rules [HB.out, bA, pN, bD]) hb); clear HB; have HB := n0_; clear n0_; (try clear hb); (try clear hb2); (try clear hk); (try clear hi)) | ((with_reducible refine gC (f := 16) rfl ?_); refine gL (some 17) rfl rfl Try.func16 (by kernel_rfl) rfl #[.slice A0 l0.length c0] rfl (by (try simp only [mA, mC, mN]); first | done | rfl | (simp only [lD, lT]; rfl)) ?_; (with_reducible refine (load_newLine.calls k (fun k_ => k_ < w.heap.size) _ _ l0 t466 _ ?side1 A4.out).mono ?_); (case side1 => exact Kd.V_mk HC0.out (Kd.F_below (Kd.C_F k40_heap HR0.out) (by apply_rules [HB.out, bA, pN, bD]))); rintro e w8 ⟨Ap467, rfl, ho0, hb⟩; refine ⟨_, rfl, ?_⟩; have n0_ := aM (Kd.V_lower (Kd.V_mono (ok' := fun k_ => True) ho0 (fun k_ hk_ => trivial)) (bZ (by apply_rules [HB.out, bA, pN, bD]))); have n1_ := aM (bS (by apply_rules [HB.out, bA, pN, bD]) hb); clear HB; have HO468 := n0_; have HB := n1_; clear n0_ n1_; (try clear hb); (try clear hb2); (try clear hk); (try clear hi); (try clear ho0)) | ((with_reducible refine gC (f := 17) rfl ?_); refine gL (some 19) rfl rfl Try.func17 (by kernel_rfl) rfl #[.pointer Ap467, .int .i64 1000000000001] rfl (by (try simp only [mA, mC, mN]); first | done | rfl | (simp only [lD, lT]; rfl)) ?_; (with_reducible refine (load_line_before.calls k _ t466.length t466 1000000000001 t469 _ ?side1 ?side2 A5.out).mono ?_); (case side1 => repeat (first | exact (Kd.V_reads' HO468.out).2.2 | (with_reducible refine cA ?_ _) | (with_reducible refine cN ?_ _) | (with_reducible refine cD ?_))); (case side2 => exact (Kd.V_reads' HO468.out).2.1); rintro e w9 ⟨rfl, hb⟩; refine ⟨_, rfl, ?_⟩; have n0_ := aM (Kd.V_below (by (with_reducible repeat (first | apply Kd.V_alloc | apply Kd.V_drewN | apply Kd.V_drew)); exact HO468.out) hb); have n1_ := aM (bS (by apply_rules [HB.out, bA, pN, bD]) hb); clear HO468 HB; have HO468 := n0_; have HB := n1_; clear n0_ n1_; (try clear hb); (try clear hb2); (try clear hk); (try clear hi)))
   go_ret2
   exact ⟨_, by first | rfl | (simp [errW_none, errW_some] <;> rfl) | (simp [*, errW_none, errW_some] <;> rfl), by first | exact Kd.R_nil _ _ _ _ _ | exact Kd.N_nil _ _ _ _ _ | exact Kd.V_nil _ _ _ _ _ | exact Kd.Q_nil _ _ _ _ _ | exact Kd.S_nil _ _ _ _ _, by apply_rules [HB.out, bA, pN, bD]⟩
  ·rw [if_neg c6] at H
   have c6b0 : decide (20000 < t469) = false := decide_eq_false c6
   clear c6
   by_cases c10 : 0 ≤ t469
   rotate_left
   ·rw [if_neg c10] at H; cases H
   rw [if_pos c10] at H
   have c10b0 := eq_true c10
   have c10b1 : decide (0 ≤ t469) = true := dT c10
   clear c10
   by_cases c11 : (t469 : Int).toNat ≤ 35184372088832
   rotate_left
   ·rw [if_neg c11] at H; cases H
   rw [if_pos c11] at H
   have c11b0 := eq_true c11
   have c11b1 : decide ((t469 : Int).toNat ≤ 35184372088832) = true := dT c11
   clear c11
   obtain ⟨y470, hy470⟩ : ∃ y_ : List Int, y_ = (([] : List Int)) := ⟨_, rfl⟩
   replace H : (load_Even.l0 k t466 y470 t469 0) = some (r1, r2) := by first | (rw [hy470]; exact H) | exact H
   have Ny470 := aM hy470
   clear hy470; have H' := aM H; clear H
   go_enter Try.func12, Try.ntmps12
   go_wp2_with (first | ((with_reducible refine gC (f := 15) rfl ?_); refine gL (some 12) rfl rfl Try.func15 (by kernel_rfl) rfl #[.slice A0 l0.length c0] rfl (by (try simp only [mA, mC, mN]); first | done | rfl | (simp only [lD, lT]; rfl)) ?_; (with_reducible refine (load_Check.calls k _ _ l0 t465 _ ?side1 ?side2 A2.out).mono ?_); (case side1 => repeat (first | exact HR0.out | (with_reducible refine cA ?_ _) | (with_reducible refine cN ?_ _) | (with_reducible refine cD ?_))); (case side2 => exact HC0.out); rintro e w12 ⟨rfl, hb⟩; refine ⟨_, rfl, ?_⟩; have n0_ := aM (bS (by apply_rules [HB.out, bA, pN, bD]) hb); clear HB; have HB := n0_; clear n0_; (try clear hb); (try clear hb2); (try clear hk); (try clear hi)) | ((with_reducible refine gC (f := 16) rfl ?_); refine gL (some 17) rfl rfl Try.func16 (by kernel_rfl) rfl #[.slice A0 l0.length c0] rfl (by (try simp only [mA, mC, mN]); first | done | rfl | (simp only [lD, lT]; rfl)) ?_; (with_reducible refine (load_newLine.calls k (fun k_ => k_ < w.heap.size) _ _ l0 t466 _ ?side1 A4.out).mono ?_); (case side1 => exact Kd.V_mk HC0.out (Kd.F_below (Kd.C_F k40_heap HR0.out) (by apply_rules [HB.out, bA, pN, bD]))); rintro e w13 ⟨Ap467, rfl, ho0, hb⟩; refine ⟨_, rfl, ?_⟩; have n0_ := aM (Kd.V_lower (Kd.V_mono (ok' := fun k_ => True) ho0 (fun k_ hk_ => trivial)) (bZ (by apply_rules [HB.out, bA, pN, bD]))); have n1_ := aM (bS (by apply_rules [HB.out, bA, pN, bD]) hb); clear HB; have HO468 := n0_; have HB := n1_; clear n0_ n1_; (try clear hb); (try clear hb2); (try clear hk); (try clear hi); (try clear ho0)) | ((with_reducible refine gC (f := 17) rfl ?_); refine gL (some 19) rfl rfl Try.func17 (by kernel_rfl) rfl #[.pointer Ap467, .int .i64 1000000000001] rfl (by (try simp only [mA, mC, mN]); first | done | rfl | (simp only [lD, lT]; rfl)) ?_; (with_reducible refine (load_line_before.calls k _ t466.length t466 1000000000001 t469 _ ?side1 ?side2 A5.out).mono ?_); (case side1 => repeat (first | exact (Kd.V_reads' HO468.out).2.2 | (with_reducible refine cA ?_ _) | (with_reducible refine cN ?_ _) | (with_reducible refine cD ?_))); (case side2 => exact (Kd.V_reads' HO468.out).2.1); rintro e w14 ⟨rfl, hb⟩; refine ⟨_, rfl, ?_⟩; have n0_ := aM (Kd.V_below (by (with_reducible repeat (first | apply Kd.V_alloc | apply Kd.V_drewN | apply Kd.V_drew)); exact HO468.out) hb); have n1_ := aM (bS (by apply_rules [HB.out, bA, pN, bD]) hb); clear HO468 HB; have HO468 := n0_; have HB := n1_; clear n0_ n1_; (try clear hb); (try clear hb2); (try clear hk); (try clear hi)) | ((with_reducible refine gate_dst (N := 23) rfl ?_); refine R_make_cap (Kd.int .i64) _ 3 rfl (N := 23) rfl 22 _ _ rfl t469 rfl rfl Try.underlying22 (.int .i64 0) 8 info3 (by omega) (ok := fun _ => True) trivial (oD (by first | (with_reducible assumption) | assumption)) (Nat.le_trans (Nat.mul_le_mul_right _ (oD (by first | (with_reducible assumption) | assumption) : t469.toNat ≤ 35184372088832)) (by omega)) (Below.refl _ _) (Nat.le_refl _) ?_; intro v471 w15 ho16 hb hg_ hnew_; clear hg_ hnew_; (first | rw [← Ny470.out] at ho16 | (simp only [Int.reduceToNat] at ho16; rw [← Ny470.out] at ho16)); have n0_ := aM (Kd.V_elder' (by (with_reducible repeat (first | apply Kd.V_alloc | apply Kd.V_drewN | apply Kd.V_drew)); exact HO468.out) (rB ho16) hb); have n1_ := aM (Kd.R_lower ho16 (bZ (by apply_rules [HB.out, bA, pN, bD]))); have n2_ := aM (bS (by apply_rules [HB.out, bA, pN, bD]) hb); clear HO468 HB; have HO468 := n0_; have HO472 := n1_; have HB := n2_; clear n0_ n1_ n2_ hb ho16))
   go_loopg [7, 25] k (fun kq v7 v25 w' => ∃ (x7_1 : List Int) (x25_1 : Int), v25 = .int .i64 x25_1 ∧ Aside0 (load_Even.l0 kq t466 x7_1 t469 x25_1 = some (r1, r2)) ∧ Aside0 (kq ≤ k) ∧ Aside0 (Kd.V k51 51 w' w.heap.size (fun k_ => some k_ ≠ (v7 : Value).ownBlock) (.slice Ap467 t466.length t466.length) t466) ∧ Aside0 (Kd.R (Kd.int .i64) 3 w' w.heap.size (fun _ => True) v7 x7_1) ∧ Aside0 (Below w.heap.size w w'))
   case atStart => exact ⟨(y470), (0), (by first | rfl | (simp; done) | (simp [*]; done)), H', ⟨Nat.le_refl _⟩, ⟨by (with_reducible repeat (first | apply Kd.V_alloc | apply Kd.V_drewN | apply Kd.V_drew)); exact Kd.V_mono HO468.out (fun _ hk => hk.2)⟩, ⟨by apply_rules [HO472.out, rN, rD]⟩, ⟨by apply_rules [HB.out, bA, pN, bD]⟩⟩
   case round =>
    clear H'
    try clear c1
    try clear p2
    try clear c3
    try clear c3b0
    try clear c3b1
    try clear p4
    try clear c6
    try clear c6b0
    try clear c10
    try clear c10b0
    try clear c10b1
    try clear c11
    try clear c11b0
    try clear c11b1
    try clear c12
    try clear c15
    try clear c16
    obtain ⟨x7_1, x25_1, rfl, HA, HK1, HO_5, HO_7, HB⟩ := hrel
    cases gk with
    | zero => exact absurd HA.out (by simp [load_Even.l0])
    | succ k1 =>
     have H := HA.out
     clear HA
     simp only [load_Even.l0] at H
     by_cases c17 : x25_1 < t469
     ·rw [if_pos c17] at H
      have c17b0 : decide (x25_1 < t469) = true := dT c17
      clear c17
      replace H := oB H
      obtain ⟨⟨t473, t474⟩, A180, H⟩ := H
      replace H : (if x7_1.length < 17592186044416 then (load_Even.l0 k1 t466 (x7_1 ++ [t473]) t469 (wrap64 (x25_1 + 1))) else (none)) = some (r1, r2) := H
      have A18 := aM A180; clear A180
      by_cases c19 : x7_1.length < 17592186044416
      rotate_left
      ·rw [if_neg c19] at H; cases H
      rw [if_pos c19] at H
      have LMc19 := aM c19
      clear c19
      obtain ⟨y475, hy475⟩ : ∃ y_ : List Int, y_ = (x7_1 ++ [t473]) := ⟨_, rfl⟩
      replace H : (load_Even.l0 k1 t466 y475 t469 (wrap64 (x25_1 + 1))) = some (r1, r2) := by first | (rw [hy475]; exact H) | exact H
      have Ny475 := aM hy475
      clear hy475; have H' := aM H; clear H
      go_wp2_with (first | ((with_reducible refine gC (f := 18) rfl ?_); refine gL (some 31) rfl rfl Try.func18 (by kernel_rfl) rfl #[.pointer Ap467, .int .i64 x25_1] rfl (by (try simp only [mA, mC, mN]); first | done | rfl | (simp only [lD, lT]; rfl)) ?_; (with_reducible refine (load_line_arrival.calls k1 _ t466.length t466 x25_1 t473 t474 _ ?side1 ?side2 A18.out).mono ?_); (case side1 => repeat (first | exact (Kd.V_reads' HO_5.out).2.2 | (with_reducible refine cA ?_ _) | (with_reducible refine cN ?_ _) | (with_reducible refine cD ?_))); (case side2 => exact (Kd.V_reads' HO_5.out).2.1); rintro e w20 ⟨rfl, hb⟩; refine ⟨_, rfl, ?_⟩; have n0_ := aM (Kd.V_below (by (with_reducible repeat (first | apply Kd.V_alloc | apply Kd.V_drewN | apply Kd.V_drew)); exact HO_5.out) hb); have n1_ := aM (rO (by apply_rules [HO_7.out, rN, rD]) hb); have n2_ := aM (bS (by apply_rules [HB.out, bA, pN, bD]) hb); clear HO_5 HO_7 HB; have HO_5 := n0_; have HO_7 := n1_; have HB := n2_; clear n0_ n1_ n2_; (try clear hb); (try clear hb2); (try clear hk); (try clear hi)) | ((with_reducible refine gate_builtin (b := .append) (xs := #[.tmp 34, .tmp 36]) rfl ?_); at_builtin; refine Kd.R_append (Kd.int .i64) (w0 := w) w.heap.size rfl (.tmp 34) (.tmp 36) 22 3 (.int .i64 0) 8 rfl Try.underlying22 info3 rfl (by decide) (by omega) u7 x7_1 t473 [.int .i64 t473] (fun _ => True) (fun _ => False) rfl rfl ?aP (fun _ hk => hk.elim) ?aF ?aO ?aB ?aS ?aL ?_; (case aP => exact rfl); (case aB => exact (by apply_rules [HB.out, bA, pN, bD])); (case aF => exact (fun _ _ => trivial)); (case aO => exact (by apply_rules [HO_7.out, rN, rD])); (case aS => exact (bZ (by apply_rules [HB.out, bA, pN, bD]))); (case aL => have := LMc19.out; omega); intro v476 w21 ho hb hg hat; rw [← Ny475.out] at ho; have n0_ := aM (Kd.V_afterv (ok := (fun _ => True)) (by (with_reducible repeat (first | apply Kd.V_alloc | apply Kd.V_drewN | apply Kd.V_drew)); exact Kd.V_mono HO_5.out (fun _ hk => ⟨trivial, hk⟩)) hg hat); have n1_ := aM (hb); have n2_ := aM (ho); clear HO_5 HB HO_7; have HO_5 := n0_; have HB := n1_; have HO477 := n2_; clear n0_ n1_ n2_ ho hb hg hat))
      go_roundg k1
      case measure => have := HK1.out; omega
      case rel => exact ⟨(y475), (wrap64 (x25_1 + 1)), (by first | rfl | (simp; done) | (simp [*]; done)), H', ⟨by have := HK1.out; omega⟩, ⟨by (with_reducible repeat (first | apply Kd.V_alloc | apply Kd.V_drewN | apply Kd.V_drew)); exact Kd.V_mono HO_5.out (fun _ hk => hk.2)⟩, ⟨by apply_rules [HO477.out, rN, rD]⟩, ⟨by apply_rules [HB.out, bA, pN, bD]⟩⟩
     ·rw [if_neg c17] at H
      have c17b0 : decide (x25_1 < t469) = false := decide_eq_false c17
      clear c17
      simp only [Option.some.injEq, Prod.mk.injEq] at H
      obtain ⟨rfl, rfl⟩ := H
      go_wp2
      go_ret2
      exact ⟨_, by first | rfl | (simp [errW_none, errW_some] <;> rfl) | (simp [*, errW_none, errW_some] <;> rfl), by (with_reducible repeat (first | apply rN | apply rD)); exact HO_7.out, by apply_rules [HB.out, bA, pN, bD]⟩
 ·rw [if_neg c3] at H
  have c3b0 : (t465 == 0) = false := beq_eq_false_iff_ne.mpr c3
  have c3b1 : (t465 != 0) = true := bne_iff_ne.mpr c3
  simp only [Option.some.injEq, Prod.mk.injEq] at H
  obtain ⟨rfl, rfl⟩ := H
  go_enter Try.func12, Try.ntmps12
  go_wp2_with (first | ((with_reducible refine gC (f := 15) rfl ?_); refine gL (some 12) rfl rfl Try.func15 (by kernel_rfl) rfl #[.slice A0 l0.length c0] rfl (by (try simp only [mA, mC, mN]); first | done | rfl | (simp only [lD, lT]; rfl)) ?_; (with_reducible refine (load_Check.calls k _ _ l0 t465 _ ?side1 ?side2 A2.out).mono ?_); (case side1 => repeat (first | exact HR0.out | (with_reducible refine cA ?_ _) | (with_reducible refine cN ?_ _) | (with_reducible refine cD ?_))); (case side2 => exact HC0.out); rintro e w22 ⟨rfl, hb⟩; refine ⟨_, rfl, ?_⟩; have n0_ := aM (bS (by apply_rules [HB.out, bA, pN, bD]) hb); clear HB; have HB := n0_; clear n0_; (try clear hb); (try clear hb2); (try clear hk); (try clear hi)))
  go_ret2
  exact ⟨_, by first | rfl | (simp [errW_none, errW_some] <;> rfl) | (simp [*, errW_none, errW_some] <;> rfl), by first | exact Kd.R_nil _ _ _ _ _ | exact Kd.N_nil _ _ _ _ _ | exact Kd.V_nil _ _ _ _ _ | exact Kd.Q_nil _ _ _ _ _ | exact Kd.S_nil _ _ _ _ _, by apply_rules [HB.out, bA, pN, bD]⟩
def dynamometerlaw7_even.f (k : Nat)  : Option (Bool) := (load_Even.f k (([(⟨2000000, 2000, 2000⟩ : S40)] : List (S40)))).bind fun bt481 => (if bt481.2 = 0 then (if (bt481.1.length : Int) = 4 then (if 0 < (bt481.1.length : Int) then (if (rd bt481.1 0) = 250000 then (if 3 < (bt481.1.length : Int) then (some ((rd bt481.1 3) == 1750000)) else (none)) else (some false)) else (none)) else (some false)) else (some false))
theorem dynamometerlaw7_even.mono : ∀ k, LeO (dynamometerlaw7_even.f k ) (dynamometerlaw7_even.f (k + 1) ) := by
 intro  k
 unfold dynamometerlaw7_even.f
 repeat' first
   | (with_reducible exact load_Even.mono _ _)
   | (with_reducible exact LeO.refl _)
   | (with_reducible exact LeO.none _)
   | (with_reducible refine LeO.ite ?_ ?_)
   | (with_reducible refine LeO.bind ?_ (fun _ => ?_))
theorem dynamometerlaw7_even.calls (k : Nat)  (r : Bool) (w : World) (h : dynamometerlaw7_even.f k  = some r) :
  Calls Try.prog 5 #[] w fun e w' => e = .returned (.bool r) ∧ Below w.heap.size w w' := by
 have hu40 := Try.underlying40
 have HB := aM (Below.refl w.heap.size w)
 have H : ((load_Even.f k (([(⟨2000000, 2000, 2000⟩ : S40)] : List (S40)))).bind fun bt481 => (if bt481.2 = 0 then (if (bt481.1.length : Int) = 4 then (if 0 < (bt481.1.length : Int) then (if (rd bt481.1 0) = 250000 then (if 3 < (bt481.1.length : Int) then (some ((rd bt481.1 3) == 1750000)) else (none)) else (some false)) else (none)) else (some false)) else (some false))) = some r := h
 clear h
 obtain ⟨y478, hy478⟩ : ∃ y_ : List (S40), y_ = (([(⟨2000000, 2000, 2000⟩ : S40)] : List (S40))) := ⟨_, rfl⟩
 replace H : ((load_Even.f k y478).bind fun bt481 => (if bt481.2 = 0 then (if (bt481.1.length : Int) = 4 then (if 0 < (bt481.1.length : Int) then (if (rd bt481.1 0) = 250000 then (if 3 < (bt481.1.length : Int) then (some ((rd bt481.1 3) == 1750000)) else (none)) else (some false)) else (none)) else (some false)) else (some false))) = some r := by first | (rw [hy478]; exact H) | exact H
 have Ny478 := aM hy478
 clear hy478
 replace H := oB H
 obtain ⟨⟨t481, t482⟩, A10, H⟩ := H
 replace H : (if t482 = 0 then (if (t481.length : Int) = 4 then (if 0 < (t481.length : Int) then (if (rd t481 0) = 250000 then (if 3 < (t481.length : Int) then (some ((rd t481 3) == 1750000)) else (none)) else (some false)) else (none)) else (some false)) else (some false)) = some r := H
 have A1 := aM A10; clear A10
 by_cases c2 : t482 = 0
 ·rw [if_pos c2] at H
  have c2b0 : (t482 == 0) = true := beq_iff_eq.mpr c2
  have c2b1 : (t482 != 0) = false := bne_eq_false_iff_eq.mpr c2
  clear c2
  by_cases c3 : (t481.length : Int) = 4
  ·rw [if_pos c3] at H
   have c3b0 : ((t481.length : Int) == 4) = true := beq_iff_eq.mpr c3
   have c3b1 : ((t481.length : Int) != 4) = false := bne_eq_false_iff_eq.mpr c3
   clear c3
   by_cases c4 : 0 < (t481.length : Int)
   rotate_left
   ·rw [if_neg c4] at H; cases H
   rw [if_pos c4] at H
   have c4b0 : decide (0 < (t481.length : Int)) = true := dT c4
   have c4b1 : decide (0 < t481.length) = true := dT (by omega)
   clear c4
   by_cases c5 : (rd t481 0) = 250000
   ·rw [if_pos c5] at H
    have c5b0 : ((rd t481 0) == 250000) = true := beq_iff_eq.mpr c5
    have c5b1 : ((rd t481 0) != 250000) = false := bne_eq_false_iff_eq.mpr c5
    clear c5
    by_cases c6 : 3 < (t481.length : Int)
    rotate_left
    ·rw [if_neg c6] at H; cases H
    rw [if_pos c6] at H
    have c6b0 : decide (3 < (t481.length : Int)) = true := dT c6
    have c6b1 : decide (3 < t481.length) = true := dT (by omega)
    clear c6
    obtain rfl := Option.some.inj H
    go_enter Try.func5, Try.ntmps5
    go_wp2_with (first | ((with_reducible refine gate_dst (N := 5) rfl ?_); (try (refine gate_guard (by rfl) ?_; dsimp only)); refine Kd.R_lit k40 _ 40 ?hg (N := 5) ?hd (xs := ([(⟨2000000, 2000, 2000⟩ : S40)] : List (S40))) (inner := [.int .i64 2000000, .int .i64 2000, .int .i64 2000]) (ok := fun _ => True) (okp := fun _ => True) ?hr ?hp (fun _ hk => hk) trivial (Below.refl _ _) (Nat.le_refl _) (by simp) ?_; (case hd => rfl); (case hg => rfl); (case hr => first | (go_simp; done) | (go_simp; rfl)); (case hp => exact (Reps.c3 (show Kd.M k40 _ _ _ (⟨2000000, 2000, 2000⟩ : S40) [.int .i64 2000000, .int .i64 2000, .int .i64 2000] from (k40_mkM _ _ _ (⟨2000000, 2000, 2000⟩ : S40) )) (Reps.none _ _))); intro v479 w7 ho8 hb hg_ hnew_; clear hg_ hnew_; (first | rw [← Ny478.out] at ho8 | (simp only [Int.reduceToNat] at ho8; rw [← Ny478.out] at ho8)); have n0_ := aM (Kd.R_lower ho8 (bZ (by apply_rules [HB.out, bA, pN, bD]))); have n1_ := aM (bS (by apply_rules [HB.out, bA, pN, bD]) hb); clear HB; have HO480 := n0_; have HB := n1_; clear n0_ n1_ hb ho8; obtain ⟨Ao9, co9, eo9⟩ := Kd.R_slice HO480.out; subst eo9) | ((with_reducible refine gC (f := 12) rfl ?_); refine gL (some 6) rfl rfl Try.func12 (by kernel_rfl) rfl #[.slice Ao9 y478.length co9] rfl (by (try simp only [mA, mC, mN]); first | done | rfl | (simp only [lD, lT]; rfl)) ?_; (with_reducible refine (load_Even.calls k _ _ y478 t481 t482 _ ?side1 ?side2 A1.out).mono ?_); (case side1 => repeat (first | exact (rS HO480.out).2.2 | (with_reducible refine cA ?_ _) | (with_reducible refine cN ?_ _) | (with_reducible refine cD ?_))); (case side2 => exact (rS HO480.out).2.1); rintro e w10 ⟨v483, rfl, ho0, hb⟩; refine ⟨_, rfl, ?_⟩; have n0_ := aM (rO (by apply_rules [HO480.out, rN, rD]) hb); have n1_ := aM (Kd.R_lower ho0 (bZ (by apply_rules [HB.out, bA, pN, bD]))); have n2_ := aM (bS (by apply_rules [HB.out, bA, pN, bD]) hb); clear HO480 HB; have HO480 := n0_; have HO484 := n1_; have HB := n2_; clear n0_ n1_ n2_; (try clear hb); (try clear hb2); (try clear hk); (try clear hi); (try clear ho0); obtain ⟨Ao11, co11, eo11⟩ := Kd.R_slice HO484.out; subst eo11; have p485 : 0 ≤ (0 : Int) := (by omega); have q485 : 0 < (t481.length : Int) := oD (by first | (with_reducible assumption) | assumption); obtain ⟨ad485, e485, hx485_0⟩ := Kd.at_int (rS HO484.out).2.2 0 p485 q485; cases e485; have qi485 : (0 < t481.length) = True := eq_true (by omega); (try rw [show ((0 : Int)).toNat = 0 from rfl] at hx485_0); (try rw [Addr.add_zero'] at hx485_0); replace p485 := eq_true p485; replace q485 := eq_true q485; have p486 : 0 ≤ (3 : Int) := (by omega); have q486 : 3 < (t481.length : Int) := oD (by first | (with_reducible assumption) | assumption); obtain ⟨ad486, e486, hx486_0⟩ := Kd.at_int (rS HO484.out).2.2 3 p486 q486; obtain rfl : ad485 = ad486 := (by injection e486); (try simp only [show (3 : Int).toNat = 3 from rfl, Nat.reduceMul, Nat.reduceEqDiff, Go.Addr.add, ↓reduceIte] at hx486_0); have qi486 : (3 < t481.length) = True := eq_true (by omega); (try rw [show ((3 : Int)).toNat = 3 from rfl] at hx486_0); replace p486 := eq_true p486; replace q486 := eq_true q486))
    go_ret
    exact ⟨by first | rfl | (simp [errW_none, errW_some] <;> rfl) | (simp [*, errW_none, errW_some] <;> rfl), by apply_rules [HB.out, bA, pN, bD]⟩
   ·rw [if_neg c5] at H
    have c5b0 : ((rd t481 0) == 250000) = false := beq_eq_false_iff_ne.mpr c5
    have c5b1 : ((rd t481 0) != 250000) = true := bne_iff_ne.mpr c5
    obtain rfl := Option.some.inj H
    go_enter Try.func5, Try.ntmps5
    go_wp2_with (first | ((with_reducible refine gate_dst (N := 5) rfl ?_); (try (refine gate_guard (by rfl) ?_; dsimp only)); refine Kd.R_lit k40 _ 40 ?hg (N := 5) ?hd (xs := ([(⟨2000000, 2000, 2000⟩ : S40)] : List (S40))) (inner := [.int .i64 2000000, .int .i64 2000, .int .i64 2000]) (ok := fun _ => True) (okp := fun _ => True) ?hr ?hp (fun _ hk => hk) trivial (Below.refl _ _) (Nat.le_refl _) (by simp) ?_; (case hd => rfl); (case hg => rfl); (case hr => first | (go_simp; done) | (go_simp; rfl)); (case hp => exact (Reps.c3 (show Kd.M k40 _ _ _ (⟨2000000, 2000, 2000⟩ : S40) [.int .i64 2000000, .int .i64 2000, .int .i64 2000] from (k40_mkM _ _ _ (⟨2000000, 2000, 2000⟩ : S40) )) (Reps.none _ _))); intro v479 w12 ho13 hb hg_ hnew_; clear hg_ hnew_; (first | rw [← Ny478.out] at ho13 | (simp only [Int.reduceToNat] at ho13; rw [← Ny478.out] at ho13)); have n0_ := aM (Kd.R_lower ho13 (bZ (by apply_rules [HB.out, bA, pN, bD]))); have n1_ := aM (bS (by apply_rules [HB.out, bA, pN, bD]) hb); clear HB; have HO480 := n0_; have HB := n1_; clear n0_ n1_ hb ho13; obtain ⟨Ao14, co14, eo14⟩ := Kd.R_slice HO480.out; subst eo14) | ((with_reducible refine gC (f := 12) rfl ?_); refine gL (some 6) rfl rfl Try.func12 (by kernel_rfl) rfl #[.slice Ao14 y478.length co14] rfl (by (try simp only [mA, mC, mN]); first | done | rfl | (simp only [lD, lT]; rfl)) ?_; (with_reducible refine (load_Even.calls k _ _ y478 t481 t482 _ ?side1 ?side2 A1.out).mono ?_); (case side1 => repeat (first | exact (rS HO480.out).2.2 | (with_reducible refine cA ?_ _) | (with_reducible refine cN ?_ _) | (with_reducible refine cD ?_))); (case side2 => exact (rS HO480.out).2.1); rintro e w15 ⟨v483, rfl, ho0, hb⟩; refine ⟨_, rfl, ?_⟩; have n0_ := aM (rO (by apply_rules [HO480.out, rN, rD]) hb); have n1_ := aM (Kd.R_lower ho0 (bZ (by apply_rules [HB.out, bA, pN, bD]))); have n2_ := aM (bS (by apply_rules [HB.out, bA, pN, bD]) hb); clear HO480 HB; have HO480 := n0_; have HO484 := n1_; have HB := n2_; clear n0_ n1_ n2_; (try clear hb); (try clear hb2); (try clear hk); (try clear hi); (try clear ho0); obtain ⟨Ao16, co16, eo16⟩ := Kd.R_slice HO484.out; subst eo16; have p485 : 0 ≤ (0 : Int) := (by omega); have q485 : 0 < (t481.length : Int) := oD (by first | (with_reducible assumption) | assumption); obtain ⟨ad485, e485, hx485_0⟩ := Kd.at_int (rS HO484.out).2.2 0 p485 q485; cases e485; have qi485 : (0 < t481.length) = True := eq_true (by omega); (try rw [show ((0 : Int)).toNat = 0 from rfl] at hx485_0); (try rw [Addr.add_zero'] at hx485_0); replace p485 := eq_true p485; replace q485 := eq_true q485))
    go_ret
    exact ⟨by first | rfl | (simp [errW_none, errW_some] <;> rfl) | (simp [*, errW_none, errW_some] <;> rfl), by apply_rules [HB.out, bA, pN, bD]⟩
  ·rw [if_neg c3] at H
   have c3b0 : ((t481.length : Int) == 4) = false := beq_eq_false_iff_ne.mpr c3
   have c3b1 : ((t481.length : Int) != 4) = true := bne_iff_ne.mpr c3
   obtain rfl := Option.some.inj H
   go_enter Try.func5, Try.ntmps5
   go_wp2_with (first | ((with_reducible refine gate_dst (N := 5) rfl ?_); (try (refine gate_guard (by rfl) ?_; dsimp only)); refine Kd.R_lit k40 _ 40 ?hg (N := 5) ?hd (xs := ([(⟨2000000, 2000, 2000⟩ : S40)] : List (S40))) (inner := [.int .i64 2000000, .int .i64 2000, .int .i64 2000]) (ok := fun _ => True) (okp := fun _ => True) ?hr ?hp (fun _ hk => hk) trivial (Below.refl _ _) (Nat.le_refl _) (by simp) ?_; (case hd => rfl); (case hg => rfl); (case hr => first | (go_simp; done) | (go_simp; rfl)); (case hp => exact (Reps.c3 (show Kd.M k40 _ _ _ (⟨2000000, 2000, 2000⟩ : S40) [.int .i64 2000000, .int .i64 2000, .int .i64 2000] from (k40_mkM _ _ _ (⟨2000000, 2000, 2000⟩ : S40) )) (Reps.none _ _))); intro v479 w17 ho18 hb hg_ hnew_; clear hg_ hnew_; (first | rw [← Ny478.out] at ho18 | (simp only [Int.reduceToNat] at ho18; rw [← Ny478.out] at ho18)); have n0_ := aM (Kd.R_lower ho18 (bZ (by apply_rules [HB.out, bA, pN, bD]))); have n1_ := aM (bS (by apply_rules [HB.out, bA, pN, bD]) hb); clear HB; have HO480 := n0_; have HB := n1_; clear n0_ n1_ hb ho18; obtain ⟨Ao19, co19, eo19⟩ := Kd.R_slice HO480.out; subst eo19) | ((with_reducible refine gC (f := 12) rfl ?_); refine gL (some 6) rfl rfl Try.func12 (by kernel_rfl) rfl #[.slice Ao19 y478.length co19] rfl (by (try simp only [mA, mC, mN]); first | done | rfl | (simp only [lD, lT]; rfl)) ?_; (with_reducible refine (load_Even.calls k _ _ y478 t481 t482 _ ?side1 ?side2 A1.out).mono ?_); (case side1 => repeat (first | exact (rS HO480.out).2.2 | (with_reducible refine cA ?_ _) | (with_reducible refine cN ?_ _) | (with_reducible refine cD ?_))); (case side2 => exact (rS HO480.out).2.1); rintro e w20 ⟨v483, rfl, ho0, hb⟩; refine ⟨_, rfl, ?_⟩; have n0_ := aM (rO (by apply_rules [HO480.out, rN, rD]) hb); have n1_ := aM (Kd.R_lower ho0 (bZ (by apply_rules [HB.out, bA, pN, bD]))); have n2_ := aM (bS (by apply_rules [HB.out, bA, pN, bD]) hb); clear HO480 HB; have HO480 := n0_; have HO484 := n1_; have HB := n2_; clear n0_ n1_ n2_; (try clear hb); (try clear hb2); (try clear hk); (try clear hi); (try clear ho0); obtain ⟨Ao21, co21, eo21⟩ := Kd.R_slice HO484.out; subst eo21))
   go_ret
   exact ⟨by first | rfl | (simp [errW_none, errW_some] <;> rfl) | (simp [*, errW_none, errW_some] <;> rfl), by apply_rules [HB.out, bA, pN, bD]⟩
 ·rw [if_neg c2] at H
  have c2b0 : (t482 == 0) = false := beq_eq_false_iff_ne.mpr c2
  have c2b1 : (t482 != 0) = true := bne_iff_ne.mpr c2
  obtain rfl := Option.some.inj H
  go_enter Try.func5, Try.ntmps5
  go_wp2_with (first | ((with_reducible refine gate_dst (N := 5) rfl ?_); (try (refine gate_guard (by rfl) ?_; dsimp only)); refine Kd.R_lit k40 _ 40 ?hg (N := 5) ?hd (xs := ([(⟨2000000, 2000, 2000⟩ : S40)] : List (S40))) (inner := [.int .i64 2000000, .int .i64 2000, .int .i64 2000]) (ok := fun _ => True) (okp := fun _ => True) ?hr ?hp (fun _ hk => hk) trivial (Below.refl _ _) (Nat.le_refl _) (by simp) ?_; (case hd => rfl); (case hg => rfl); (case hr => first | (go_simp; done) | (go_simp; rfl)); (case hp => exact (Reps.c3 (show Kd.M k40 _ _ _ (⟨2000000, 2000, 2000⟩ : S40) [.int .i64 2000000, .int .i64 2000, .int .i64 2000] from (k40_mkM _ _ _ (⟨2000000, 2000, 2000⟩ : S40) )) (Reps.none _ _))); intro v479 w22 ho23 hb hg_ hnew_; clear hg_ hnew_; (first | rw [← Ny478.out] at ho23 | (simp only [Int.reduceToNat] at ho23; rw [← Ny478.out] at ho23)); have n0_ := aM (Kd.R_lower ho23 (bZ (by apply_rules [HB.out, bA, pN, bD]))); have n1_ := aM (bS (by apply_rules [HB.out, bA, pN, bD]) hb); clear HB; have HO480 := n0_; have HB := n1_; clear n0_ n1_ hb ho23; obtain ⟨Ao24, co24, eo24⟩ := Kd.R_slice HO480.out; subst eo24) | ((with_reducible refine gC (f := 12) rfl ?_); refine gL (some 6) rfl rfl Try.func12 (by kernel_rfl) rfl #[.slice Ao24 y478.length co24] rfl (by (try simp only [mA, mC, mN]); first | done | rfl | (simp only [lD, lT]; rfl)) ?_; (with_reducible refine (load_Even.calls k _ _ y478 t481 t482 _ ?side1 ?side2 A1.out).mono ?_); (case side1 => repeat (first | exact (rS HO480.out).2.2 | (with_reducible refine cA ?_ _) | (with_reducible refine cN ?_ _) | (with_reducible refine cD ?_))); (case side2 => exact (rS HO480.out).2.1); rintro e w25 ⟨v483, rfl, ho0, hb⟩; refine ⟨_, rfl, ?_⟩; have n0_ := aM (rO (by apply_rules [HO480.out, rN, rD]) hb); have n1_ := aM (Kd.R_lower ho0 (bZ (by apply_rules [HB.out, bA, pN, bD]))); have n2_ := aM (bS (by apply_rules [HB.out, bA, pN, bD]) hb); clear HO480 HB; have HO480 := n0_; have HO484 := n1_; have HB := n2_; clear n0_ n1_ n2_; (try clear hb); (try clear hb2); (try clear hk); (try clear hi); (try clear ho0)))
  go_ret
  exact ⟨by first | rfl | (simp [errW_none, errW_some] <;> rfl) | (simp [*, errW_none, errW_some] <;> rfl), by apply_rules [HB.out, bA, pN, bD]⟩
def dynamometerref0_trimmed.l0 : Nat → List Int → Int → Option (List Int)
 | 0, _, _ => none
 | k + 1, x0, x3 => if x3 > 0 then (if 0 ≤ (wrap64 (x3 - 1)) then (if (wrap64 (x3 - 1)) < (x0.length : Int) then (if (rd x0 (wrap64 (x3 - 1))) = 0 then (dynamometerref0_trimmed.l0 k x0 (wrap64 (x3 - 1))) else (if 0 ≤ x3 then (if x3 ≤ (x0.length : Int) then (some (x0.take (x3 : Int).toNat)) else (none)) else (none))) else (none)) else (none)) else (if 0 ≤ x3 then (if x3 ≤ (x0.length : Int) then (some (x0.take (x3 : Int).toNat)) else (none)) else (none))
def dynamometerref0_trimmed.f (k : Nat) (l0 : List Int) : Option (List Int) := dynamometerref0_trimmed.l0 k l0 (l0.length : Int)
theorem dynamometerref0_trimmed.calls (k : Nat) (P0_ : Nat → Prop) (A0 : Option Addr) (c0 : Nat) (l0 : List Int) (r : List Int) (w : World) (hs0 : Kd.V (Kd.int .i64) 3 w w.heap.size (fun k_ => P0_ k_) (.slice A0 l0.length c0) l0) (h : dynamometerref0_trimmed.f k l0 = some r) :
  Calls Try.prog 13 #[.slice A0 l0.length c0] w fun e w' => ∃ v0_ : Value, e = .returned (v0_) ∧ Kd.V (Kd.int .i64) 3 w' w.heap.size (fun k_ => (P0_ k_ ∨ w.heap.size ≤ k_)) v0_ r ∧ Below w.heap.size w w' := by
 have HO0 := aM (show Kd.V (Kd.int .i64) 3 w w.heap.size (fun k_ => (P0_ k_ ∨ w.heap.size ≤ k_)) (.slice A0 l0.length c0) l0 from Kd.V_mono hs0 (fun k_ hk => .inl hk))
 have HB := aM (Below.refl w.heap.size w)
 have H : (dynamometerref0_trimmed.l0 k l0 (l0.length : Int)) = some r := h
 clear h; have H' := aM H; clear H
 go_enter Try.func13, Try.ntmps13
 go_wp2
 go_loopg [3] k (fun kq v3 w' => ∃ (x3_1 : Int), v3 = .int .i64 x3_1 ∧ Aside0 (dynamometerref0_trimmed.l0 kq l0 x3_1 = some r) ∧ Aside0 (kq ≤ k) ∧ Aside0 (Kd.V (Kd.int .i64) 3 w' w.heap.size (fun k_ => (P0_ k_ ∨ w.heap.size ≤ k_)) (.slice A0 l0.length c0) l0) ∧ Aside0 (Below w.heap.size w w'))
 case atStart => exact ⟨((l0.length : Int)), (by first | rfl | (simp; done) | (simp [*]; done)), H', ⟨Nat.le_refl _⟩, ⟨by (with_reducible repeat (first | apply Kd.V_alloc | apply Kd.V_drewN | apply Kd.V_drew)); exact HO0.out⟩, ⟨by apply_rules [HB.out, bA, pN, bD]⟩⟩
 case round =>
  clear H'
  try clear c1
  obtain ⟨x3_1, rfl, HA, HK1, HO_0, HB⟩ := hrel
  cases gk with
  | zero => exact absurd HA.out (by simp [dynamometerref0_trimmed.l0])
  | succ k1 =>
   have H := HA.out
   clear HA
   simp only [dynamometerref0_trimmed.l0] at H
   by_cases c2 : x3_1 > 0
   ·rw [if_pos c2] at H
    have c2b0 : decide (0 < x3_1) = true := dT c2
    clear c2
    obtain ⟨ji3, hji3⟩ : ∃ j_ : Int, (wrap64 (x3_1 - 1)) = j_ := ⟨_, rfl⟩
    replace H : (if 0 ≤ (ji3) then (if (ji3) < (l0.length : Int) then (if (rd l0 (ji3)) = 0 then (dynamometerref0_trimmed.l0 k1 l0 ji3) else (if 0 ≤ x3_1 then (if x3_1 ≤ (l0.length : Int) then (some (l0.take (x3_1 : Int).toNat)) else (none)) else (none))) else (none)) else (none)) = some r := by first | (rw [hji3] at H; exact H) | (simp only [hji3] at H ⊢; exact H)
    have hji3w : (IntKind.i64.wrap (x3_1 - 1)) = ji3 := (i64_w _).trans hji3
    by_cases c4 : 0 ≤ (ji3)
    rotate_left
    ·rw [if_neg c4] at H; cases H
    rw [if_pos c4] at H
    have c4b0 : decide (0 ≤ (ji3)) = true := dT c4
    clear c4
    by_cases c5 : (ji3) < (l0.length : Int)
    rotate_left
    ·rw [if_neg c5] at H; cases H
    rw [if_pos c5] at H
    have c5b0 : decide ((ji3) < (l0.length : Int)) = true := dT c5
    clear c5
    by_cases c6 : (rd l0 (ji3)) = 0
    ·rw [if_pos c6] at H
     have c6b0 : ((rd l0 (ji3)) == 0) = true := beq_iff_eq.mpr c6
     have c6b1 : ((rd l0 (ji3)) != 0) = false := bne_eq_false_iff_eq.mpr c6
     clear c6; have H' := aM H; clear H
     have p487 : 0 ≤ ((ji3) : Int) := oD (by first | (with_reducible assumption) | assumption)
     have q487 : (ji3) < (l0.length : Int) := oD (by first | (with_reducible assumption) | assumption)
     obtain ⟨ad487, e487, hx487_0⟩ := Kd.at_int (Kd.V_reads' HO_0.out).2.2 (ji3) p487 q487
     cases e487
     replace p487 := eq_true p487
     replace q487 := eq_true q487
     go_wp2
     go_roundg k1
     case measure => have := HK1.out; omega
     case rel => exact ⟨(ji3), (by first | rfl | (simp; done) | (simp only [← hji3] <;> (first | rfl | simp)) | (simp [*]; done)), (by first | exact H' | (have h_ := H'; simp only [← hji3] at h_; exact h_)), ⟨by have := HK1.out; omega⟩, ⟨by (with_reducible repeat (first | apply Kd.V_alloc | apply Kd.V_drewN | apply Kd.V_drew)); exact HO_0.out⟩, ⟨by apply_rules [HB.out, bA, pN, bD]⟩⟩
    ·rw [if_neg c6] at H
     have c6b0 : ((rd l0 (ji3)) == 0) = false := beq_eq_false_iff_ne.mpr c6
     have c6b1 : ((rd l0 (ji3)) != 0) = true := bne_iff_ne.mpr c6
     by_cases c7 : 0 ≤ x3_1
     rotate_left
     ·rw [if_neg c7] at H; cases H
     rw [if_pos c7] at H
     have c7b0 := eq_true c7
     have c7b1 : decide (0 ≤ x3_1) = true := dT c7
     clear c7
     by_cases c8 : x3_1 ≤ (l0.length : Int)
     rotate_left
     ·rw [if_neg c8] at H; cases H
     rw [if_pos c8] at H
     have c8b0 := eq_true c8
     have c8b1 : decide (x3_1 ≤ (l0.length : Int)) = true := dT c8
     clear c8
     obtain ⟨y488, hy488⟩ : ∃ y_ : List Int, y_ = (l0.take (x3_1 : Int).toNat) := ⟨_, rfl⟩
     replace H : (some y488) = some r := by first | (rw [hy488]; exact H) | exact H
     have Ny488 := aM hy488
     clear hy488
     obtain rfl := Option.some.inj H
     have p487 : 0 ≤ ((ji3) : Int) := oD (by first | (with_reducible assumption) | assumption)
     have q487 : (ji3) < (l0.length : Int) := oD (by first | (with_reducible assumption) | assumption)
     obtain ⟨ad487, e487, hx487_0⟩ := Kd.at_int (Kd.V_reads' HO_0.out).2.2 (ji3) p487 q487
     cases e487
     replace p487 := eq_true p487
     replace q487 := eq_true q487
     have q9 : (x3_1 : Int) ≤ ((l0.length : Int) : Int) := oD (by first | (with_reducible assumption) | assumption)
     obtain ⟨i09, hi09, _, hsz9, _⟩ := info_parts info3
     have hroom9 : l0.length ≤ c0 := (Kd.V_reads' HO_0.out).2.1
     have hC9 : Kd.F (Kd.int .i64) _ _ (some ad487) l0.length l0 := (Kd.V_at (base := w.heap.size) HO_0.out).2.2
     have hcut9 := cut_toc (P := Try.prog) 27 3 .i64 Try.underlying27 hi09 (some ad487) l0.length c0 x3_1 (oD (by first | (with_reducible assumption) | assumption)) q9 hroom9
     have hr9 := Kd.F_take (m := (x3_1 : Int).toNat) hC9 (by omega)
     have hy9 : y488.length = (x3_1 : Int).toNat := (by rw [Ny488.out, lT]; omega)
     rw [← Ny488.out] at hr9
     rw [← hy9] at hcut9
     have HO492 := aM (show Kd.V (Kd.int .i64) 3 _ w.heap.size _ (.slice (some ad487) y488.length y488.length) y488 from Kd.V_mk (by omega) hr9)
     have HC492 := aM (show y488.length ≤ y488.length from by omega)
     clear hr9 hC9 hroom9 hi09 hsz9
     have KY9 := aM hy9
     clear hy9
     replace q9 := eq_true q9
     go_wp2
     go_ret
     exact ⟨_, by first | rfl | (simp [errW_none, errW_some] <;> rfl) | (simp only [← hji3]; first | rfl | (simp [errW_none, errW_some] <;> rfl)) | (simp [*, errW_none, errW_some] <;> rfl), by (with_reducible repeat (first | apply Kd.V_alloc | apply Kd.V_drewN | apply Kd.V_drew)); exact HO492.out, by apply_rules [HB.out, bA, pN, bD]⟩
   ·rw [if_neg c2] at H
    have c2b0 : decide (0 < x3_1) = false := decide_eq_false c2
    clear c2
    by_cases c10 : 0 ≤ x3_1
    rotate_left
    ·rw [if_neg c10] at H; cases H
    rw [if_pos c10] at H
    have c10b0 := eq_true c10
    have c10b1 : decide (0 ≤ x3_1) = true := dT c10
    clear c10
    by_cases c11 : x3_1 ≤ (l0.length : Int)
    rotate_left
    ·rw [if_neg c11] at H; cases H
    rw [if_pos c11] at H
    have c11b0 := eq_true c11
    have c11b1 : decide (x3_1 ≤ (l0.length : Int)) = true := dT c11
    clear c11
    obtain ⟨y493, hy493⟩ : ∃ y_ : List Int, y_ = (l0.take (x3_1 : Int).toNat) := ⟨_, rfl⟩
    replace H : (some y493) = some r := by first | (rw [hy493]; exact H) | exact H
    have Ny493 := aM hy493
    clear hy493
    obtain rfl := Option.some.inj H
    have q12 : (x3_1 : Int) ≤ ((l0.length : Int) : Int) := oD (by first | (with_reducible assumption) | assumption)
    obtain ⟨i012, hi012, _, hsz12, _⟩ := info_parts info3
    have hroom12 : l0.length ≤ c0 := (Kd.V_reads' HO_0.out).2.1
    have hC12 : Kd.F (Kd.int .i64) _ _ A0 l0.length l0 := (Kd.V_at (base := w.heap.size) HO_0.out).2.2
    have hcut12 := cut_toc (P := Try.prog) 27 3 .i64 Try.underlying27 hi012 A0 l0.length c0 x3_1 (oD (by first | (with_reducible assumption) | assumption)) q12 hroom12
    have hr12 := Kd.F_take (m := (x3_1 : Int).toNat) hC12 (by omega)
    have hy12 : y493.length = (x3_1 : Int).toNat := (by rw [Ny493.out, lT]; omega)
    rw [← Ny493.out] at hr12
    rw [← hy12] at hcut12
    have HO497 := aM (show Kd.V (Kd.int .i64) 3 _ w.heap.size _ (.slice A0 y493.length y493.length) y493 from Kd.V_mk (by omega) hr12)
    have HC497 := aM (show y493.length ≤ y493.length from by omega)
    clear hr12 hC12 hroom12 hi012 hsz12
    have KY12 := aM hy12
    clear hy12
    replace q12 := eq_true q12
    go_wp2
    go_ret
    exact ⟨_, by first | rfl | (simp [errW_none, errW_some] <;> rfl) | (simp [*, errW_none, errW_some] <;> rfl), by (with_reducible repeat (first | apply Kd.V_alloc | apply Kd.V_drewN | apply Kd.V_drew)); exact HO497.out, by apply_rules [HB.out, bA, pN, bD]⟩
end Go.Proofs.Ytaoekkikpceccaa.QLoadAdmitKeepsTheLimit
