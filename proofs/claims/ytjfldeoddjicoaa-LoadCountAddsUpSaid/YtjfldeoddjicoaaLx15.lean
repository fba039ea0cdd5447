/- Lean functions that answer as the Go functions of this seat do, each with the proof of that; the text was written by a program of ours, a changed copy of the kit's print. Condition of each proof: the Lean function answers 'some'. -/
import Derived.Test.YtjfldeoddjicoaaLx0
import Derived.Test.YtjfldeoddjicoaaLx1
import Derived.Test.YtjfldeoddjicoaaLx2
import Derived.Test.YtjfldeoddjicoaaLx3
import Derived.Test.YtjfldeoddjicoaaLx4
import Derived.Test.YtjfldeoddjicoaaLx13
import Derived.Test.YtjfldeoddjicoaaLx14
namespace Go.Proofs.Ytjfldeoddjicoaa.QLoadCountAddsUp
open Go.RowKit Go.Proofs.YtjfldeoddjicoaaW.PrintWords Go.Proofs.YtjfldeoddjicoaaW.PrintLast Go.Proofs.YtjfldeoddjicoaaW.PrintMore
open Go.Proofs.YtjfldeoddjicoaaW.PrintWords.Kd renaming R_drewN → rN, R_drew → rD
open Go.Proofs.YtjfldeoddjicoaaW.PrintWords renaming pw_below_drewN → pN, below_drew1 → bD, below_alloc → bA, blk_drewN → kN, blk_alloc → kA, blk_drew → kD, below_step → bS, gate_callee → gC
open Go.Proofs.YtjfldeoddjicoaaW.PrintLast renaming goesL_ → gL
open List renaming setIfInBounds_toArray → sI, set_cons_zero → sZ, set_cons_succ → sS, map_toArray → mA
attribute [local go_sem] min2_int min_two
set_option linter.unusedVariables false
set_option linter.unusedSimpArgs false
def load_line_arrival.f (k : Nat) (l0 : List (S96)) (a1 : Int) : Option (Int × Bool) := (load_product.f k (([2, a1] : List Int))).bind fun t429 => ((nat_Of.f 1).bind fun t432 => ((nat_Add.f k t429 t432).bind fun t435 => ((nat_Of.f 2).bind fun t438 => ((load_line_first.f k l0 t435 t438).bind fun bt441 => (some (bt441.1, bt441.2))))))
theorem load_line_arrival.mono : ∀ a0 a1 k, LeO (load_line_arrival.f k a0 a1) (load_line_arrival.f (k + 1) a0 a1) := by
 intro a0 a1 k
 unfold load_line_arrival.f
 repeat' first
   | (with_reducible exact load_line_first.mono _ _ _ _)
   | (with_reducible exact load_product.mono _ _)
   | (with_reducible exact nat_Add.mono _ _ _)
   | (with_reducible exact LeO.refl _)
   | (with_reducible exact LeO.none _)
   | (with_reducible refine LeO.ite ?_ ?_)
   | (with_reducible refine LeO.bind ?_ (fun _ => ?_))
   | exact load_line_first.mono _ _ _ _
   | exact load_product.mono _ _
   | exact nat_Add.mono _ _ _
   | exact LeO.none _
   | refine LeO.ite ?_ ?_
   | refine LeO.bind ?_ (fun _ => ?_)
set_option maxHeartbeats 8000000 in
set_option maxRecDepth 100000 in
theorem load_line_arrival.calls (k : Nat) (A0 : Option Addr) (c0 : Nat) (l0 : List (S96)) (a1 : Int) (r1 : Int) (r2 : Bool) (w : World) (hr0 : Kd.C k96 w A0 l0.length l0) (hc0 : l0.length ≤ c0) (h : load_line_arrival.f k l0 a1 = some (r1, r2)) :
  Calls Try.prog 39 #[.pointer A0, .int .i64 a1] w fun e w' => e = .returned (.tuple #[.int .i64 r1, .bool r2]) ∧ Below w.heap.size w w' := by
 have hu102 := Try.underlying102
 have HR0 := aM hr0
 have HC0 := aM hc0
 clear hr0 hc0
 have HB := aM (Below.refl w.heap.size w)
 have H : ((load_product.f k (([2, a1] : List Int))).bind fun t429 => ((nat_Of.f 1).bind fun t432 => ((nat_Add.f k t429 t432).bind fun t435 => ((nat_Of.f 2).bind fun t438 => ((load_line_first.f k l0 t435 t438).bind fun bt441 => (some (bt441.1, bt441.2))))))) = some (r1, r2) := h
 clear h
 obtain ⟨y426, hy426⟩ : ∃ y_ : List Int, y_ = (([2, a1] : List Int)) := ⟨_, rfl⟩
 replace H : ((load_product.f k y426).bind fun t429 => ((nat_Of.f 1).bind fun t432 => ((nat_Add.f k t429 t432).bind fun t435 => ((nat_Of.f 2).bind fun t438 => ((load_line_first.f k l0 t435 t438).bind fun bt441 => (some (bt441.1, bt441.2))))))) = some (r1, r2) := by first | (rw [hy426]; with_reducible exact H) | (have H2_ := (Option.bind_some _ _).symm.trans H; rw [hy426]; with_reducible exact H2_) | (have H2_ := (Option.bind_some _ _).symm.trans H; with_reducible exact H2_) | with_reducible exact H | (rw [hy426]; exact H) | exact H
 have Ny426 := aM hy426
 clear hy426
 replace H := oB H
 obtain ⟨t429, A30, H⟩ := H
 replace H : ((nat_Of.f 1).bind fun t432 => ((nat_Add.f k t429 t432).bind fun t435 => ((nat_Of.f 2).bind fun t438 => ((load_line_first.f k l0 t435 t438).bind fun bt441 => (some (bt441.1, bt441.2)))))) = some (r1, r2) := H
 have A3 := aM A30; clear A30
 replace H := oB H
 obtain ⟨t432, A40, H⟩ := H
 replace H : ((nat_Add.f k t429 t432).bind fun t435 => ((nat_Of.f 2).bind fun t438 => ((load_line_first.f k l0 t435 t438).bind fun bt441 => (some (bt441.1, bt441.2))))) = some (r1, r2) := H
 have A4 := aM A40; clear A40
 replace H := oB H
 obtain ⟨t435, A50, H⟩ := H
 replace H : ((nat_Of.f 2).bind fun t438 => ((load_line_first.f k l0 t435 t438).bind fun bt441 => (some (bt441.1, bt441.2)))) = some (r1, r2) := H
 have A5 := aM A50; clear A50
 replace H := oB H
 obtain ⟨t438, A60, H⟩ := H
 replace H : ((load_line_first.f k l0 t435 t438).bind fun bt441 => (some (bt441.1, bt441.2))) = some (r1, r2) := H
 have A6 := aM A60; clear A60
 replace H := oB H
 obtain ⟨⟨t441, t442⟩, A70, H⟩ := H
 replace H : (some (t441, t442)) = some (r1, r2) := H
 have A7 := aM A70; clear A70
 simp only [Option.some.injEq, Prod.mk.injEq] at H
 obtain ⟨rfl, rfl⟩ := H
 go_enter Try.func39, Try.ntmps39
 go_wp2_with (first | ((with_reducible refine gate_dst (N := 8) rfl ?_); refine Kd.R_lit (Kd.int .i64) _ 3 ?hg (N := 8) ?hd (xs := ([2, a1] : List Int)) (inner := [.int .i64 2, .int .i64 a1]) (ok := fun _ => True) (okp := fun _ => True) ?hr ?hp (fun _ hk => hk) trivial (Below.refl _ _) (Nat.le_refl _) (by simp) ?_; (case hd => rfl); (case hg => rfl); (case hr => first | (go_simp; done) | (go_simp; rfl)); (case hp => exact (Reps.one (show Kd.M (Kd.int .i64) _ _ _ 2 [.int .i64 2] from rfl) (Reps.one (show Kd.M (Kd.int .i64) _ _ _ a1 [.int .i64 a1] from rfl) (Reps.none _ _)))); intro v427 w8 ho9 hb hg_ hnew_; clear hg_ hnew_; (first | rw [← Ny426.out] at ho9 | (simp only [Int.reduceToNat] at ho9; rw [← Ny426.out] at ho9)); have n0_ := aM (Kd.R_lower ho9 (below_size (by repeat (first | (with_reducible first | exact HB.out | apply bA | apply pN | apply bD) | exact HB.out)))); have n1_ := aM (bS (by repeat (first | (with_reducible first | exact HB.out | apply bA | apply pN | apply bD) | exact HB.out)) hb); clear HB; have HO428 := n0_; have HB := n1_; clear n0_ n1_ hb ho9; obtain ⟨Ao10, co10, eo10⟩ := Kd.R_slice HO428.out; subst eo10) | ((with_reducible refine gC (f := 50) rfl ?_); refine gL (some 9) rfl rfl Try.func50 (by kernel_rfl) rfl #[.slice Ao10 y426.length co10] rfl (by (try simp only [mA, List.map_cons, List.map_nil]); first | done | rfl | (simp only [List.length_drop, List.length_take]; rfl)) ?_; (with_reducible refine (load_product.calls k _ _ y426 t429 _ ?side1 ?side2 A3.out).mono ?_); (case side1 => repeat (first | exact (Kd.R_reads' HO428.out).2.2 | (with_reducible refine cA ?_ _) | (with_reducible refine cN ?_ _) | (with_reducible refine cD ?_))); (case side2 => exact (Kd.R_reads' HO428.out).2.1); rintro e w11 ⟨v430, rfl, ho0, hb⟩; refine ⟨_, rfl, ?_⟩; have n0_ := aM (Kd.R_below (by (with_reducible repeat (first | apply rA | apply rN | apply rD)); exact HO428.out) hb); have n1_ := aM (Kd.R_lower ho0 (below_size (by repeat (first | (with_reducible first | exact HB.out | apply bA | apply pN | apply bD) | exact HB.out)))); have n2_ := aM (bS (by repeat (first | (with_reducible first | exact HB.out | apply bA | apply pN | apply bD) | exact HB.out)) hb); clear HO428 HB; have HO428 := n0_; have HO431 := n1_; have HB := n2_; clear n0_ n1_ n2_; (try clear hb); (try clear hb2); (try clear hk); (try clear hi); (try clear ho0)) | ((with_reducible refine gC (f := 56) rfl ?_); refine gL (some 10) rfl rfl Try.func56 (by kernel_rfl) rfl #[.int .i64 1] rfl (by (try simp only [mA, List.map_cons, List.map_nil]); first | done | rfl | (simp only [List.length_drop, List.length_take]; rfl)) ?_; (with_reducible refine (nat_Of.calls 1 t432 _ A4.out).mono ?_); rintro e w12 ⟨v433, rfl, ho0, hb⟩; refine ⟨_, rfl, ?_⟩; have n0_ := aM (Kd.R_below (by (with_reducible repeat (first | apply rA | apply rN | apply rD)); exact HO428.out) hb); have n1_ := aM (Kd.R_elder' (by (with_reducible repeat (first | apply rA | apply rN | apply rD)); exact HO431.out) (Kd.R_base ho0) hb); have n2_ := aM (Kd.R_lower (Kd.R_new' ho0 (Kd.R_lt (by (with_reducible repeat (first | apply rA | apply rN | apply rD)); exact HO431.out))) (below_size (by repeat (first | (with_reducible first | exact HB.out | apply bA | apply pN | apply bD) | exact HB.out)))); have n3_ := aM (bS (by repeat (first | (with_reducible first | exact HB.out | apply bA | apply pN | apply bD) | exact HB.out)) hb); clear HO428 HO431 HB; have HO428 := n0_; have HO431 := n1_; have HO434 := n2_; have HB := n3_; clear n0_ n1_ n2_ n3_; (try clear hb); (try clear hb2); (try clear hk); (try clear hi); (try clear ho0); obtain ⟨Ao13, co13, eo13⟩ := Kd.R_slice HO431.out; subst eo13; obtain ⟨Ao14, co14, eo14⟩ := Kd.R_slice HO434.out; subst eo14) | ((with_reducible refine gC (f := 49) rfl ?_); refine gL (some 11) rfl rfl Try.func49 (by kernel_rfl) rfl #[.slice Ao13 t429.length co13, .slice Ao14 t432.length co14] rfl (by (try simp only [mA, List.map_cons, List.map_nil]); first | done | rfl | (simp only [List.length_drop, List.length_take]; rfl)) ?_; (with_reducible refine (nat_Add.calls k _ _ t429 _ _ t432 t435 _ ?side1 ?side2 ?side3 ?side4 A5.out).mono ?_); (case side1 => repeat (first | exact (Kd.R_reads' HO431.out).2.2 | (with_reducible refine cA ?_ _) | (with_reducible refine cN ?_ _) | (with_reducible refine cD ?_))); (case side2 => exact (Kd.R_reads' HO431.out).2.1); (case side3 => repeat (first | exact (Kd.R_reads' HO434.out).2.2 | (with_reducible refine cA ?_ _) | (with_reducible refine cN ?_ _) | (with_reducible refine cD ?_))); (case side4 => exact (Kd.R_reads' HO434.out).2.1); rintro e w15 ⟨v436, rfl, ho0, hb⟩; refine ⟨_, rfl, ?_⟩; have n0_ := aM (Kd.R_below (by (with_reducible repeat (first | apply rA | apply rN | apply rD)); exact HO428.out) hb); have n1_ := aM (Kd.R_elder' (by (with_reducible repeat (first | apply rA | apply rN | apply rD)); exact HO431.out) (Kd.R_base ho0) hb); have n2_ := aM (Kd.R_elder' (by (with_reducible repeat (first | apply rA | apply rN | apply rD)); exact HO434.out) (Kd.R_base ho0) hb); have n3_ := aM (Kd.R_lower (Kd.R_new' (Kd.R_new' ho0 (Kd.R_lt (by (with_reducible repeat (first | apply rA | apply rN | apply rD)); exact HO431.out))) (Kd.R_lt (by (with_reducible repeat (first | apply rA | apply rN | apply rD)); exact HO434.out))) (below_size (by repeat (first | (with_reducible first | exact HB.out | apply bA | apply pN | apply bD) | exact HB.out)))); have n4_ := aM (bS (by repeat (first | (with_reducible first | exact HB.out | apply bA | apply pN | apply bD) | exact HB.out)) hb); clear HO428 HO431 HO434 HB; have HO428 := n0_; have HO431 := n1_; have HO434 := n2_; have HO437 := n3_; have HB := n4_; clear n0_ n1_ n2_ n3_ n4_; (try clear hb); (try clear hb2); (try clear hk); (try clear hi); (try clear ho0)) | ((with_reducible refine gC (f := 56) rfl ?_); refine gL (some 12) rfl rfl Try.func56 (by kernel_rfl) rfl #[.int .i64 2] rfl (by (try simp only [mA, List.map_cons, List.map_nil]); first | done | rfl | (simp only [List.length_drop, List.length_take]; rfl)) ?_; (with_reducible refine (nat_Of.calls 2 t438 _ A6.out).mono ?_); rintro e w16 ⟨v439, rfl, ho0, hb⟩; refine ⟨_, rfl, ?_⟩; have n0_ := aM (Kd.R_below (by (with_reducible repeat (first | apply rA | apply rN | apply rD)); exact HO428.out) hb); have n1_ := aM (Kd.R_elder' (by (with_reducible repeat (first | apply rA | apply rN | apply rD)); exact HO431.out) (Kd.R_base ho0) hb); have n2_ := aM (Kd.R_elder' (by (with_reducible repeat (first | apply rA | apply rN | apply rD)); exact HO434.out) (Kd.R_base ho0) hb); have n3_ := aM (Kd.R_elder' (by (with_reducible repeat (first | apply rA | apply rN | apply rD)); exact HO437.out) (Kd.R_base ho0) hb); have n4_ := aM (Kd.R_lower (Kd.R_new' (Kd.R_new' (Kd.R_new' ho0 (Kd.R_lt (by (with_reducible repeat (first | apply rA | apply rN | apply rD)); exact HO431.out))) (Kd.R_lt (by (with_reducible repeat (first | apply rA | apply rN | apply rD)); exact HO434.out))) (Kd.R_lt (by (with_reducible repeat (first | apply rA | apply rN | apply rD)); exact HO437.out))) (below_size (by repeat (first | (with_reducible first | exact HB.out | apply bA | apply pN | apply bD) | exact HB.out)))); have n5_ := aM (bS (by repeat (first | (with_reducible first | exact HB.out | apply bA | apply pN | apply bD) | exact HB.out)) hb); clear HO428 HO431 HO434 HO437 HB; have HO428 := n0_; have HO431 := n1_; have HO434 := n2_; have HO437 := n3_; have HO440 := n4_; have HB := n5_; clear n0_ n1_ n2_ n3_ n4_ n5_; (try clear hb); (try clear hb2); (try clear hk); (try clear hi); (try clear ho0); obtain ⟨Ao17, co17, eo17⟩ := Kd.R_slice HO440.out; subst eo17; obtain ⟨Ao18, co18, eo18⟩ := Kd.R_slice HO437.out; subst eo18) | ((with_reducible refine gC (f := 55) rfl ?_); refine gL (some 14) rfl rfl Try.func55 (by kernel_rfl) rfl #[.pointer A0, .agg #[.slice Ao18 t435.length co18, .slice Ao17 t438.length co17]] rfl (by (try simp only [mA, List.map_cons, List.map_nil]); first | done | rfl | (simp only [List.length_drop, List.length_take]; rfl)) ?_; (with_reducible refine (load_line_first.calls k _ c0 l0 _ _ t435 _ _ t438 t441 t442 _ ?side1 ?side2 ?side3 ?side4 ?side5 ?side6 A7.out).mono ?_); (case side1 => repeat (first | exact (Kd.C_below HR0.out HB.out) | (with_reducible refine cA ?_ _) | (with_reducible refine cN ?_ _) | (with_reducible refine cD ?_))); (case side2 => exact HC0.out); (case side3 => repeat (first | exact (Kd.R_reads' HO437.out).2.2 | (with_reducible refine cA ?_ _) | (with_reducible refine cN ?_ _) | (with_reducible refine cD ?_))); (case side4 => exact (Kd.R_reads' HO437.out).2.1); (case side5 => repeat (first | exact (Kd.R_reads' HO440.out).2.2 | (with_reducible refine cA ?_ _) | (with_reducible refine cN ?_ _) | (with_reducible refine cD ?_))); (case side6 => exact (Kd.R_reads' HO440.out).2.1); rintro e w19 ⟨rfl, hb⟩; refine ⟨_, rfl, ?_⟩; have n0_ := aM (Kd.R_below (by (with_reducible repeat (first | apply rA | apply rN | apply rD)); exact HO428.out) hb); have n1_ := aM (Kd.R_below (by (with_reducible repeat (first | apply rA | apply rN | apply rD)); exact HO431.out) hb); have n2_ := aM (Kd.R_below (by (with_reducible repeat (first | apply rA | apply rN | apply rD)); exact HO434.out) hb); have n3_ := aM (Kd.R_below (by (with_reducible repeat (first | apply rA | apply rN | apply rD)); exact HO437.out) hb); have n4_ := aM (Kd.R_below (by (with_reducible repeat (first | apply rA | apply rN | apply rD)); exact HO440.out) hb); have n5_ := aM (bS (by repeat (first | (with_reducible first | exact HB.out | apply bA | apply pN | apply bD) | exact HB.out)) hb); clear HO428 HO431 HO434 HO437 HO440 HB; have HO428 := n0_; have HO431 := n1_; have HO434 := n2_; have HO437 := n3_; have HO440 := n4_; have HB := n5_; clear n0_ n1_ n2_ n3_ n4_ n5_; (try clear hb); (try clear hb2); (try clear hk); (try clear hi)))
 go_ret2
 exact ⟨by first | rfl | (simp [errW_none, errW_some] <;> rfl) | (simp [*, errW_none, errW_some] <;> rfl), by repeat (first | (with_reducible first | exact HB.out | apply bA | apply pN | apply bD) | exact HB.out)⟩
def load_Even.l0 : Nat → List (S96) → List Int → Int → Int → Option (List Int × Int)
 | 0, _, _, _, _ => none
 | k + 1, x5, x7, x24, x25 => if x25 < x24 then ((load_line_arrival.f k x5 x25).bind fun bt451 => (if x7.length < 17592186044416 then (load_Even.l0 k x5 (x7 ++ [bt451.1]) x24 (wrap64 (x25 + 1))) else (none))) else (some (x7, 0))
def load_Even.f (k : Nat) (l0 : List (S77)) : Option (List Int × Int) := (load_Check.f k l0).bind fun t443 => (if t443 = 0 then ((load_newLine.f k l0).bind fun t444 => ((load_line_before.f k t444 1000000000001).bind fun t447 => (if t447 > 20000 then (some (([] : List Int), 3)) else (if 0 ≤ t447 then (if (t447 : Int).toNat ≤ 35184372088832 then (load_Even.l0 k t444 (([] : List Int)) t447 0) else (none)) else (none))))) else (some (([] : List Int), t443)))
theorem load_Even.mono_l : ∀ k, (∀ y0 y1 y2 y3, LeO (load_Even.l0 k y0 y1 y2 y3) (load_Even.l0 (k + 1) y0 y1 y2 y3))
 | 0 => fun _ _ _ _ r h => by simp [load_Even.l0] at h
 | k + 1 => by
  have ih0 := load_Even.mono_l k
  ·intro y0 y1 y2 y3
   unfold load_Even.l0
   repeat' first
   | (with_reducible exact ih0 _ _ _ _)
   | (with_reducible exact load_Check.mono _ _)
   | (with_reducible exact load_line_arrival.mono _ _ _)
   | (with_reducible exact load_line_before.mono _ _ _)
   | (with_reducible exact load_newLine.mono _ _)
   | (with_reducible exact LeO.refl _)
   | (with_reducible exact LeO.none _)
   | (with_reducible refine LeO.ite ?_ ?_)
   | (with_reducible refine LeO.bind ?_ (fun _ => ?_))
   | exact ih0 _ _ _ _
   | exact load_Check.mono _ _
   | exact load_line_arrival.mono _ _ _
   | exact load_line_before.mono _ _ _
   | exact load_newLine.mono _ _
   | exact LeO.none _
   | refine LeO.ite ?_ ?_
   | refine LeO.bind ?_ (fun _ => ?_)
theorem load_Even.mono : ∀ a0 k, LeO (load_Even.f k a0) (load_Even.f (k + 1) a0) := by
 intro a0 k
 have ih0 := load_Even.mono_l k
 unfold load_Even.f
 repeat' first
   | (with_reducible exact ih0 _ _ _ _)
   | (with_reducible exact load_Check.mono _ _)
   | (with_reducible exact load_line_arrival.mono _ _ _)
   | (with_reducible exact load_line_before.mono _ _ _)
   | (with_reducible exact load_newLine.mono _ _)
   | (with_reducible exact LeO.refl _)
   | (with_reducible exact LeO.none _)
   | (with_reducible refine LeO.ite ?_ ?_)
   | (with_reducible refine LeO.bind ?_ (fun _ => ?_))
   | exact ih0 _ _ _ _
   | exact load_Check.mono _ _
   | exact load_line_arrival.mono _ _ _
   | exact load_line_before.mono _ _ _
   | exact load_newLine.mono _ _
   | exact LeO.none _
   | refine LeO.ite ?_ ?_
   | refine LeO.bind ?_ (fun _ => ?_)
set_option maxHeartbeats 8000000 in
set_option maxRecDepth 100000 in
theorem load_Even.calls (k : Nat) (A0 : Option Addr) (c0 : Nat) (l0 : List (S77)) (r1 : List Int) (r2 : Int) (w : World) (hr0 : Kd.C k77 w A0 l0.length l0) (hc0 : l0.length ≤ c0) (h : load_Even.f k l0 = some (r1, r2)) :
  Calls Try.prog 17 #[.slice A0 l0.length c0] w fun e w' => ∃ v0_ : Value, e = .returned (.tuple #[v0_, .int .i64 r2]) ∧ Kd.R (Kd.int .i64) 3 w' w.heap.size (fun _ => True) v0_ r1 ∧ Below w.heap.size w w' := by
 have HR0 := aM hr0
 have HC0 := aM hc0
 clear hr0 hc0
 have HB := aM (Below.refl w.heap.size w)
 have H : ((load_Check.f k l0).bind fun t443 => (if t443 = 0 then ((load_newLine.f k l0).bind fun t444 => ((load_line_before.f k t444 1000000000001).bind fun t447 => (if t447 > 20000 then (some (([] : List Int), 3)) else (if 0 ≤ t447 then (if (t447 : Int).toNat ≤ 35184372088832 then (load_Even.l0 k t444 (([] : List Int)) t447 0) else (none)) else (none))))) else (some (([] : List Int), t443)))) = some (r1, r2) := h
 clear h
 replace H := oB H
 obtain ⟨t443, A20, H⟩ := H
 replace H : (if t443 = 0 then ((load_newLine.f k l0).bind fun t444 => ((load_line_before.f k t444 1000000000001).bind fun t447 => (if t447 > 20000 then (some (([] : List Int), 3)) else (if 0 ≤ t447 then (if (t447 : Int).toNat ≤ 35184372088832 then (load_Even.l0 k t444 (([] : List Int)) t447 0) else (none)) else (none))))) else (some (([] : List Int), t443))) = some (r1, r2) := H
 have A2 := aM A20; clear A20
 by_cases c3 : t443 = 0
 ·rw [if_pos c3] at H
  have c3b0 : (t443 == 0) = true := beq_iff_eq.mpr c3
  have c3b1 : (t443 != 0) = false := bne_eq_false_iff_eq.mpr c3
  clear c3
  replace H := oB H
  obtain ⟨t444, A40, H⟩ := H
  replace H : ((load_line_before.f k t444 1000000000001).bind fun t447 => (if t447 > 20000 then (some (([] : List Int), 3)) else (if 0 ≤ t447 then (if (t447 : Int).toNat ≤ 35184372088832 then (load_Even.l0 k t444 (([] : List Int)) t447 0) else (none)) else (none)))) = some (r1, r2) := H
  have A4 := aM A40; clear A40
  replace H := oB H
  obtain ⟨t447, A50, H⟩ := H
  replace H : (if t447 > 20000 then (some (([] : List Int), 3)) else (if 0 ≤ t447 then (if (t447 : Int).toNat ≤ 35184372088832 then (load_Even.l0 k t444 (([] : List Int)) t447 0) else (none)) else (none))) = some (r1, r2) := H
  have A5 := aM A50; clear A50
  by_cases c6 : t447 > 20000
  ·rw [if_pos c6] at H
   have c6b0 : decide (20000 < t447) = true := dT c6
   clear c6
   simp only [Option.some.injEq, Prod.mk.injEq] at H
   obtain ⟨rfl, rfl⟩ := H
   go_enter Try.func17, Try.ntmps17
   go_wp2_with (first | ((with_reducible refine gC (f := 36) rfl ?_); refine gL (some 12) rfl rfl Try.func36 (by kernel_rfl) rfl #[.slice A0 l0.length c0] rfl (by (try simp only [mA, List.map_cons, List.map_nil]); first | done | rfl | (simp only [List.length_drop, List.length_take]; rfl)) ?_; (with_reducible refine (load_Check.calls k _ _ l0 t443 _ ?side1 ?side2 A2.out).mono ?_); (case side1 => repeat (first | exact HR0.out | (with_reducible refine cA ?_ _) | (with_reducible refine cN ?_ _) | (with_reducible refine cD ?_))); (case side2 => exact HC0.out); rintro e w7 ⟨rfl, hb⟩; refine ⟨_, rfl, ?_⟩; have n0_ := aM (bS (by repeat (first | (with_reducible first | exact HB.out | apply bA | apply pN | apply bD) | exact HB.out)) hb); clear HB; have HB := n0_; clear n0_; (try clear hb); (try clear hb2); (try clear hk); (try clear hi)) | ((with_reducible refine gC (f := 37) rfl ?_); refine gL (some 17) rfl rfl Try.func37 (by kernel_rfl) rfl #[.slice A0 l0.length c0] rfl (by (try simp only [mA, List.map_cons, List.map_nil]); first | done | rfl | (simp only [List.length_drop, List.length_take]; rfl)) ?_; (with_reducible refine (load_newLine.calls k (fun k_ => k_ < w.heap.size) _ _ l0 t444 _ ?side1 A4.out).mono ?_); (case side1 => exact Kd.V_mk HC0.out (Kd.F_below (Kd.C_F k77_heap HR0.out) (by repeat (first | (with_reducible first | exact HB.out | apply bA | apply pN | apply bD) | exact HB.out)))); rintro e w8 ⟨Ap445, rfl, ho0, hb⟩; refine ⟨_, rfl, ?_⟩; have n0_ := aM (Kd.V_lower (Kd.V_mono (ok' := fun k_ => True) ho0 (fun k_ hk_ => trivial)) (below_size (by repeat (first | (with_reducible first | exact HB.out | apply bA | apply pN | apply bD) | exact HB.out)))); have n1_ := aM (bS (by repeat (first | (with_reducible first | exact HB.out | apply bA | apply pN | apply bD) | exact HB.out)) hb); clear HB; have HO446 := n0_; have HB := n1_; clear n0_ n1_; (try clear hb); (try clear hb2); (try clear hk); (try clear hi); (try clear ho0)) | ((with_reducible refine gC (f := 38) rfl ?_); refine gL (some 19) rfl rfl Try.func38 (by kernel_rfl) rfl #[.pointer Ap445, .int .i64 1000000000001] rfl (by (try simp only [mA, List.map_cons, List.map_nil]); first | done | rfl | (simp only [List.length_drop, List.length_take]; rfl)) ?_; (with_reducible refine (load_line_before.calls k _ t444.length t444 1000000000001 t447 _ ?side1 ?side2 A5.out).mono ?_); (case side1 => repeat (first | exact (Kd.V_reads' HO446.out).2.2 | (with_reducible refine cA ?_ _) | (with_reducible refine cN ?_ _) | (with_reducible refine cD ?_))); (case side2 => exact (Kd.V_reads' HO446.out).2.1); rintro e w9 ⟨rfl, hb⟩; refine ⟨_, rfl, ?_⟩; have n0_ := aM (Kd.V_below (by (with_reducible repeat (first | apply Kd.V_alloc | apply Kd.V_drewN | apply Kd.V_drew)); exact HO446.out) hb); have n1_ := aM (bS (by repeat (first | (with_reducible first | exact HB.out | apply bA | apply pN | apply bD) | exact HB.out)) hb); clear HO446 HB; have HO446 := n0_; have HB := n1_; clear n0_ n1_; (try clear hb); (try clear hb2); (try clear hk); (try clear hi)))
   go_ret2
   exact ⟨_, by first | rfl | (simp [errW_none, errW_some] <;> rfl) | (simp [*, errW_none, errW_some] <;> rfl), by first | exact Kd.R_nil _ _ _ _ _ | exact Kd.N_nil _ _ _ _ _ | exact Kd.V_nil _ _ _ _ _ | exact Kd.Q_nil _ _ _ _ _ | exact Kd.S_nil _ _ _ _ _, by repeat (first | (with_reducible first | exact HB.out | apply bA | apply pN | apply bD) | exact HB.out)⟩
  ·rw [if_neg c6] at H
   have c6b0 : decide (20000 < t447) = false := decide_eq_false c6
   clear c6
   by_cases c10 : 0 ≤ t447
   ·rw [if_pos c10] at H
    have c10b0 := eq_true c10
    have c10b1 : decide (0 ≤ t447) = true := dT c10
    clear c10
    by_cases c11 : (t447 : Int).toNat ≤ 35184372088832
    ·rw [if_pos c11] at H
     have c11b0 := eq_true c11
     have c11b1 : decide ((t447 : Int).toNat ≤ 35184372088832) = true := dT c11
     clear c11
     obtain ⟨y448, hy448⟩ : ∃ y_ : List Int, y_ = (([] : List Int)) := ⟨_, rfl⟩
     replace H : (load_Even.l0 k t444 y448 t447 0) = some (r1, r2) := by first | (rw [hy448]; with_reducible exact H) | (have H2_ := (Option.bind_some _ _).symm.trans H; rw [hy448]; with_reducible exact H2_) | (have H2_ := (Option.bind_some _ _).symm.trans H; with_reducible exact H2_) | with_reducible exact H | (rw [hy448]; exact H) | exact H
     have Ny448 := aM hy448
     clear hy448; have H' := aM H; clear H
     go_enter Try.func17, Try.ntmps17
     go_wp2_with (first | ((with_reducible refine gC (f := 36) rfl ?_); refine gL (some 12) rfl rfl Try.func36 (by kernel_rfl) rfl #[.slice A0 l0.length c0] rfl (by (try simp only [mA, List.map_cons, List.map_nil]); first | done | rfl | (simp only [List.length_drop, List.length_take]; rfl)) ?_; (with_reducible refine (load_Check.calls k _ _ l0 t443 _ ?side1 ?side2 A2.out).mono ?_); (case side1 => repeat (first | exact HR0.out | (with_reducible refine cA ?_ _) | (with_reducible refine cN ?_ _) | (with_reducible refine cD ?_))); (case side2 => exact HC0.out); rintro e w12 ⟨rfl, hb⟩; refine ⟨_, rfl, ?_⟩; have n0_ := aM (bS (by repeat (first | (with_reducible first | exact HB.out | apply bA | apply pN | apply bD) | exact HB.out)) hb); clear HB; have HB := n0_; clear n0_; (try clear hb); (try clear hb2); (try clear hk); (try clear hi)) | ((with_reducible refine gC (f := 37) rfl ?_); refine gL (some 17) rfl rfl Try.func37 (by kernel_rfl) rfl #[.slice A0 l0.length c0] rfl (by (try simp only [mA, List.map_cons, List.map_nil]); first | done | rfl | (simp only [List.length_drop, List.length_take]; rfl)) ?_; (with_reducible refine (load_newLine.calls k (fun k_ => k_ < w.heap.size) _ _ l0 t444 _ ?side1 A4.out).mono ?_); (case side1 => exact Kd.V_mk HC0.out (Kd.F_below (Kd.C_F k77_heap HR0.out) (by repeat (first | (with_reducible first | exact HB.out | apply bA | apply pN | apply bD) | exact HB.out)))); rintro e w13 ⟨Ap445, rfl, ho0, hb⟩; refine ⟨_, rfl, ?_⟩; have n0_ := aM (Kd.V_lower (Kd.V_mono (ok' := fun k_ => True) ho0 (fun k_ hk_ => trivial)) (below_size (by repeat (first | (with_reducible first | exact HB.out | apply bA | apply pN | apply bD) | exact HB.out)))); have n1_ := aM (bS (by repeat (first | (with_reducible first | exact HB.out | apply bA | apply pN | apply bD) | exact HB.out)) hb); clear HB; have HO446 := n0_; have HB := n1_; clear n0_ n1_; (try clear hb); (try clear hb2); (try clear hk); (try clear hi); (try clear ho0)) | ((with_reducible refine gC (f := 38) rfl ?_); refine gL (some 19) rfl rfl Try.func38 (by kernel_rfl) rfl #[.pointer Ap445, .int .i64 1000000000001] rfl (by (try simp only [mA, List.map_cons, List.map_nil]); first | done | rfl | (simp only [List.length_drop, List.length_take]; rfl)) ?_; (with_reducible refine (load_line_before.calls k _ t444.length t444 1000000000001 t447 _ ?side1 ?side2 A5.out).mono ?_); (case side1 => repeat (first | exact (Kd.V_reads' HO446.out).2.2 | (with_reducible refine cA ?_ _) | (with_reducible refine cN ?_ _) | (with_reducible refine cD ?_))); (case side2 => exact (Kd.V_reads' HO446.out).2.1); rintro e w14 ⟨rfl, hb⟩; refine ⟨_, rfl, ?_⟩; have n0_ := aM (Kd.V_below (by (with_reducible repeat (first | apply Kd.V_alloc | apply Kd.V_drewN | apply Kd.V_drew)); exact HO446.out) hb); have n1_ := aM (bS (by repeat (first | (with_reducible first | exact HB.out | apply bA | apply pN | apply bD) | exact HB.out)) hb); clear HO446 HB; have HO446 := n0_; have HB := n1_; clear n0_ n1_; (try clear hb); (try clear hb2); (try clear hk); (try clear hi)) | ((with_reducible refine gate_dst (N := 23) rfl ?_); refine R_make_cap (Kd.int .i64) _ 3 rfl (N := 23) rfl 29 _ _ rfl t447 rfl rfl Try.underlying29 (.int .i64 0) 8 info3 (by omega) (ok := fun _ => True) trivial (oD (by first | (with_reducible assumption) | assumption)) (Nat.le_trans (Nat.mul_le_mul_right _ (oD (by first | (with_reducible assumption) | assumption) : t447.toNat ≤ 35184372088832)) (by omega)) (Below.refl _ _) (Nat.le_refl _) ?_; intro v449 w15 ho16 hb hg_ hnew_; clear hg_ hnew_; (first | rw [← Ny448.out] at ho16 | (simp only [Int.reduceToNat] at ho16; rw [← Ny448.out] at ho16)); have n0_ := aM (Kd.V_elder' (by (with_reducible repeat (first | apply Kd.V_alloc | apply Kd.V_drewN | apply Kd.V_drew)); exact HO446.out) (Kd.R_base ho16) hb); have n1_ := aM (Kd.R_lower ho16 (below_size (by repeat (first | (with_reducible first | exact HB.out | apply bA | apply pN | apply bD) | exact HB.out)))); have n2_ := aM (bS (by repeat (first | (with_reducible first | exact HB.out | apply bA | apply pN | apply bD) | exact HB.out)) hb); clear HO446 HB; have HO446 := n0_; have HO450 := n1_; have HB := n2_; clear n0_ n1_ n2_ hb ho16))
     go_loopg [7, 25] k (fun kq v7 v25 w' => ∃ (x7_1 : List Int) (x25_1 : Int), v25 = .int .i64 x25_1 ∧ Aside0 (load_Even.l0 kq t444 x7_1 t447 x25_1 = some (r1, r2)) ∧ Aside0 (kq ≤ k) ∧ Aside0 (Kd.V k96 96 w' w.heap.size (fun k_ => some k_ ≠ (v7 : Value).ownBlock) (.slice Ap445 t444.length t444.length) t444) ∧ Aside0 (Kd.R (Kd.int .i64) 3 w' w.heap.size (fun _ => True) v7 x7_1) ∧ Aside0 (Below w.heap.size w w'))
     case atStart => exact ⟨(y448), (0), (by first | rfl | (simp; done) | (simp [*]; done)), H', ⟨Nat.le_refl _⟩, ⟨by (with_reducible repeat (first | apply Kd.V_alloc | apply Kd.V_drewN | apply Kd.V_drew)); exact Kd.V_mono HO446.out (fun _ hk => hk.2)⟩, ⟨by (with_reducible repeat (first | apply rA | apply rN | apply rD)); exact HO450.out⟩, ⟨by repeat (first | (with_reducible first | exact HB.out | apply bA | apply pN | apply bD) | exact HB.out)⟩⟩
     case round =>
      clear H'
      try clear c1
      try clear p2
      try clear c3
      try clear c3b0
      try clear c3b1
      try clear p4
      try clear c6
      try clear c6b0
      try clear c10
      try clear c10b0
      try clear c10b1
      try clear c11
      try clear c11b0
      try clear c11b1
      obtain ⟨x7_1, x25_1, rfl, HA, HK1, HO_5, HO_7, HB⟩ := hrel
      cases gk with
      | zero => exact absurd HA.out (by simp [load_Even.l0])
      | succ k1 =>
       have H := HA.out
       clear HA
       simp only [load_Even.l0] at H
       by_cases c17 : x25_1 < t447
       ·rw [if_pos c17] at H
        have c17b0 : decide (x25_1 < t447) = true := dT c17
        clear c17
        replace H := oB H
        obtain ⟨⟨t451, t452⟩, A180, H⟩ := H
        replace H : (if x7_1.length < 17592186044416 then (load_Even.l0 k1 t444 (x7_1 ++ [t451]) t447 (wrap64 (x25_1 + 1))) else (none)) = some (r1, r2) := H
        have A18 := aM A180; clear A180
        by_cases c19 : x7_1.length < 17592186044416
        ·rw [if_pos c19] at H
         have LMc19 := aM c19
         clear c19
         obtain ⟨y453, hy453⟩ : ∃ y_ : List Int, y_ = (x7_1 ++ [t451]) := ⟨_, rfl⟩
         replace H : (load_Even.l0 k1 t444 y453 t447 (wrap64 (x25_1 + 1))) = some (r1, r2) := by first | (rw [hy453]; with_reducible exact H) | (have H2_ := (Option.bind_some _ _).symm.trans H; rw [hy453]; with_reducible exact H2_) | (have H2_ := (Option.bind_some _ _).symm.trans H; with_reducible exact H2_) | with_reducible exact H | (rw [hy453]; exact H) | exact H
         have Ny453 := aM hy453
         clear hy453; have H' := aM H; clear H
         go_wp2_with (first | ((with_reducible refine gC (f := 39) rfl ?_); refine gL (some 31) rfl rfl Try.func39 (by kernel_rfl) rfl #[.pointer Ap445, .int .i64 x25_1] rfl (by (try simp only [mA, List.map_cons, List.map_nil]); first | done | rfl | (simp only [List.length_drop, List.length_take]; rfl)) ?_; (with_reducible refine (load_line_arrival.calls k1 _ t444.length t444 x25_1 t451 t452 _ ?side1 ?side2 A18.out).mono ?_); (case side1 => repeat (first | exact (Kd.V_reads' HO_5.out).2.2 | (with_reducible refine cA ?_ _) | (with_reducible refine cN ?_ _) | (with_reducible refine cD ?_))); (case side2 => exact (Kd.V_reads' HO_5.out).2.1); rintro e w20 ⟨rfl, hb⟩; refine ⟨_, rfl, ?_⟩; have n0_ := aM (Kd.V_below (by (with_reducible repeat (first | apply Kd.V_alloc | apply Kd.V_drewN | apply Kd.V_drew)); exact HO_5.out) hb); have n1_ := aM (Kd.R_below (by (with_reducible repeat (first | apply rA | apply rN | apply rD)); exact HO_7.out) hb); have n2_ := aM (bS (by repeat (first | (with_reducible first | exact HB.out | apply bA | apply pN | apply bD) | exact HB.out)) hb); clear HO_5 HO_7 HB; have HO_5 := n0_; have HO_7 := n1_; have HB := n2_; clear n0_ n1_ n2_; (try clear hb); (try clear hb2); (try clear hk); (try clear hi)) | ((with_reducible refine gate_builtin (b := .append) (xs := #[.tmp 34, .tmp 36]) rfl ?_); at_builtin; refine Kd.R_append (Kd.int .i64) (w0 := w) w.heap.size rfl (.tmp 34) (.tmp 36) 29 3 (.int .i64 0) 8 rfl Try.underlying29 info3 rfl (by decide) (by omega) u7 x7_1 t451 [.int .i64 t451] (fun _ => True) (fun _ => False) rfl rfl ?aP (fun _ hk => hk.elim) ?aF ?aO ?aB ?aS ?aL ?_; (case aP => exact rfl); (case aB => exact (by repeat (first | (with_reducible first | exact HB.out | apply bA | apply pN | apply bD) | exact HB.out))); (case aF => exact (fun _ _ => trivial)); (case aO => exact (by (with_reducible repeat (first | apply rA | apply rN | apply rD)); exact HO_7.out)); (case aS => exact (below_size (by repeat (first | (with_reducible first | exact HB.out | apply bA | apply pN | apply bD) | exact HB.out)))); (case aL => have := LMc19.out; omega); intro v454 w21 ho hb hg hat; rw [← Ny453.out] at ho; have n0_ := aM (Kd.V_afterv (ok := (fun _ => True)) (by (with_reducible repeat (first | apply Kd.V_alloc | apply Kd.V_drewN | apply Kd.V_drew)); exact Kd.V_mono HO_5.out (fun _ hk => ⟨trivial, hk⟩)) hg hat); have n1_ := aM (hb); have n2_ := aM (ho); clear HO_5 HB HO_7; have HO_5 := n0_; have HB := n1_; have HO455 := n2_; clear n0_ n1_ n2_ ho hb hg hat))
         go_roundg k1
         case measure => have := HK1.out; omega
         case rel => exact ⟨(y453), (wrap64 (x25_1 + 1)), (by first | rfl | (simp; done) | (simp [*]; done)), H', ⟨by have := HK1.out; omega⟩, ⟨by (with_reducible repeat (first | apply Kd.V_alloc | apply Kd.V_drewN | apply Kd.V_drew)); exact Kd.V_mono HO_5.out (fun _ hk => hk.2)⟩, ⟨by (with_reducible repeat (first | apply rA | apply rN | apply rD)); exact HO455.out⟩, ⟨by repeat (first | (with_reducible first | exact HB.out | apply bA | apply pN | apply bD) | exact HB.out)⟩⟩
        ·rw [if_neg c19] at H
         exact absurd H (by simp)
       ·rw [if_neg c17] at H
        have c17b0 : decide (x25_1 < t447) = false := decide_eq_false c17
        clear c17
        simp only [Option.some.injEq, Prod.mk.injEq] at H
        obtain ⟨rfl, rfl⟩ := H
        go_wp2
        go_ret2
        exact ⟨_, by first | rfl | (simp [errW_none, errW_some] <;> rfl) | (simp [*, errW_none, errW_some] <;> rfl), by (with_reducible repeat (first | apply rA | apply rN | apply rD)); exact HO_7.out, by repeat (first | (with_reducible first | exact HB.out | apply bA | apply pN | apply bD) | exact HB.out)⟩
    ·rw [if_neg c11] at H
     exact absurd H (by simp)
   ·rw [if_neg c10] at H
    exact absurd H (by simp)
 ·rw [if_neg c3] at H
  have c3b0 : (t443 == 0) = false := beq_eq_false_iff_ne.mpr c3
  have c3b1 : (t443 != 0) = true := bne_iff_ne.mpr c3
  simp only [Option.some.injEq, Prod.mk.injEq] at H
  obtain ⟨rfl, rfl⟩ := H
  go_enter Try.func17, Try.ntmps17
  go_wp2_with (first | ((with_reducible refine gC (f := 36) rfl ?_); refine gL (some 12) rfl rfl Try.func36 (by kernel_rfl) rfl #[.slice A0 l0.length c0] rfl (by (try simp only [mA, List.map_cons, List.map_nil]); first | done | rfl | (simp only [List.length_drop, List.length_take]; rfl)) ?_; (with_reducible refine (load_Check.calls k _ _ l0 t443 _ ?side1 ?side2 A2.out).mono ?_); (case side1 => repeat (first | exact HR0.out | (with_reducible refine cA ?_ _) | (with_reducible refine cN ?_ _) | (with_reducible refine cD ?_))); (case side2 => exact HC0.out); rintro e w22 ⟨rfl, hb⟩; refine ⟨_, rfl, ?_⟩; have n0_ := aM (bS (by repeat (first | (with_reducible first | exact HB.out | apply bA | apply pN | apply bD) | exact HB.out)) hb); clear HB; have HB := n0_; clear n0_; (try clear hb); (try clear hb2); (try clear hk); (try clear hi)))
  go_ret2
  exact ⟨_, by first | rfl | (simp [errW_none, errW_some] <;> rfl) | (simp [*, errW_none, errW_some] <;> rfl), by first | exact Kd.R_nil _ _ _ _ _ | exact Kd.N_nil _ _ _ _ _ | exact Kd.V_nil _ _ _ _ _ | exact Kd.Q_nil _ _ _ _ _ | exact Kd.S_nil _ _ _ _ _, by repeat (first | (with_reducible first | exact HB.out | apply bA | apply pN | apply bD) | exact HB.out)⟩
def dynamometerlaw7_even.f (k : Nat)  : Option (Bool) := (load_Even.f k (([(⟨2000000, 2000, 2000⟩ : S77)] : List (S77)))).bind fun bt459 => (if bt459.2 = 0 then (if (bt459.1.length : Int) = 4 then (if 0 < (bt459.1.length : Int) then (if (rd bt459.1 0) = 250000 then (if 3 < (bt459.1.length : Int) then (some ((rd bt459.1 3) == 1750000)) else (none)) else (some false)) else (none)) else (some false)) else (some false))
theorem dynamometerlaw7_even.mono : ∀ k, LeO (dynamometerlaw7_even.f k ) (dynamometerlaw7_even.f (k + 1) ) := by
 intro  k
 unfold dynamometerlaw7_even.f
 repeat' first
   | (with_reducible exact load_Even.mono _ _)
   | (with_reducible exact LeO.refl _)
   | (with_reducible exact LeO.none _)
   | (with_reducible refine LeO.ite ?_ ?_)
   | (with_reducible refine LeO.bind ?_ (fun _ => ?_))
   | exact load_Even.mono _ _
   | exact LeO.none _
   | refine LeO.ite ?_ ?_
   | refine LeO.bind ?_ (fun _ => ?_)
set_option maxHeartbeats 8000000 in
set_option maxRecDepth 100000 in
theorem dynamometerlaw7_even.calls (k : Nat)  (r : Bool) (w : World) (h : dynamometerlaw7_even.f k  = some r) :
  Calls Try.prog 16 #[] w fun e w' => e = .returned (.bool r) ∧ Below w.heap.size w w' := by
 have hu77 := Try.underlying77
 have HB := aM (Below.refl w.heap.size w)
 have H : ((load_Even.f k (([(⟨2000000, 2000, 2000⟩ : S77)] : List (S77)))).bind fun bt459 => (if bt459.2 = 0 then (if (bt459.1.length : Int) = 4 then (if 0 < (bt459.1.length : Int) then (if (rd bt459.1 0) = 250000 then (if 3 < (bt459.1.length : Int) then (some ((rd bt459.1 3) == 1750000)) else (none)) else (some false)) else (none)) else (some false)) else (some false))) = some r := h
 clear h
 obtain ⟨y456, hy456⟩ : ∃ y_ : List (S77), y_ = (([(⟨2000000, 2000, 2000⟩ : S77)] : List (S77))) := ⟨_, rfl⟩
 replace H : ((load_Even.f k y456).bind fun bt459 => (if bt459.2 = 0 then (if (bt459.1.length : Int) = 4 then (if 0 < (bt459.1.length : Int) then (if (rd bt459.1 0) = 250000 then (if 3 < (bt459.1.length : Int) then (some ((rd bt459.1 3) == 1750000)) else (none)) else (some false)) else (none)) else (some false)) else (some false))) = some r := by first | (rw [hy456]; with_reducible exact H) | (have H2_ := (Option.bind_some _ _).symm.trans H; rw [hy456]; with_reducible exact H2_) | (have H2_ := (Option.bind_some _ _).symm.trans H; with_reducible exact H2_) | with_reducible exact H | (rw [hy456]; exact H) | exact H
 have Ny456 := aM hy456
 clear hy456
 replace H := oB H
 obtain ⟨⟨t459, t460⟩, A10, H⟩ := H
 replace H : (if t460 = 0 then (if (t459.length : Int) = 4 then (if 0 < (t459.length : Int) then (if (rd t459 0) = 250000 then (if 3 < (t459.length : Int) then (some ((rd t459 3) == 1750000)) else (none)) else (some false)) else (none)) else (some false)) else (some false)) = some r := H
 have A1 := aM A10; clear A10
 by_cases c2 : t460 = 0
 ·rw [if_pos c2] at H
  have c2b0 : (t460 == 0) = true := beq_iff_eq.mpr c2
  have c2b1 : (t460 != 0) = false := bne_eq_false_iff_eq.mpr c2
  clear c2
  by_cases c3 : (t459.length : Int) = 4
  ·rw [if_pos c3] at H
   have c3b0 : ((t459.length : Int) == 4) = true := beq_iff_eq.mpr c3
   have c3b1 : ((t459.length : Int) != 4) = false := bne_eq_false_iff_eq.mpr c3
   clear c3
   by_cases c4 : 0 < (t459.length : Int)
   ·rw [if_pos c4] at H
    have c4b0 : decide (0 < (t459.length : Int)) = true := dT c4
    have c4b1 : decide (0 < t459.length) = true := dT (by omega)
    clear c4
    by_cases c5 : (rd t459 0) = 250000
    ·rw [if_pos c5] at H
     have c5b0 : ((rd t459 0) == 250000) = true := beq_iff_eq.mpr c5
     have c5b1 : ((rd t459 0) != 250000) = false := bne_eq_false_iff_eq.mpr c5
     clear c5
     by_cases c6 : 3 < (t459.length : Int)
     ·rw [if_pos c6] at H
      have c6b0 : decide (3 < (t459.length : Int)) = true := dT c6
      have c6b1 : decide (3 < t459.length) = true := dT (by omega)
      clear c6
      obtain rfl := Option.some.inj H
      go_enter Try.func16, Try.ntmps16
      go_wp2_with (first | ((with_reducible refine gate_dst (N := 5) rfl ?_); (try (refine gate_guard (by rfl) ?_; dsimp only)); refine Kd.R_lit k77 _ 77 ?hg (N := 5) ?hd (xs := ([(⟨2000000, 2000, 2000⟩ : S77)] : List (S77))) (inner := [.int .i64 2000000, .int .i64 2000, .int .i64 2000]) (ok := fun _ => True) (okp := fun _ => True) ?hr ?hp (fun _ hk => hk) trivial (Below.refl _ _) (Nat.le_refl _) (by simp) ?_; (case hd => rfl); (case hg => rfl); (case hr => first | (go_simp; done) | (go_simp; rfl)); (case hp => exact (Reps.c3 (show Kd.M k77 _ _ _ (⟨2000000, 2000, 2000⟩ : S77) [.int .i64 2000000, .int .i64 2000, .int .i64 2000] from (k77_mkM _ _ _ (⟨2000000, 2000, 2000⟩ : S77) )) (Reps.none _ _))); intro v457 w7 ho8 hb hg_ hnew_; clear hg_ hnew_; (first | rw [← Ny456.out] at ho8 | (simp only [Int.reduceToNat] at ho8; rw [← Ny456.out] at ho8)); have n0_ := aM (Kd.R_lower ho8 (below_size (by repeat (first | (with_reducible first | exact HB.out | apply bA | apply pN | apply bD) | exact HB.out)))); have n1_ := aM (bS (by repeat (first | (with_reducible first | exact HB.out | apply bA | apply pN | apply bD) | exact HB.out)) hb); clear HB; have HO458 := n0_; have HB := n1_; clear n0_ n1_ hb ho8; obtain ⟨Ao9, co9, eo9⟩ := Kd.R_slice HO458.out; subst eo9) | ((with_reducible refine gC (f := 17) rfl ?_); refine gL (some 6) rfl rfl Try.func17 (by kernel_rfl) rfl #[.slice Ao9 y456.length co9] rfl (by (try simp only [mA, List.map_cons, List.map_nil]); first | done | rfl | (simp only [List.length_drop, List.length_take]; rfl)) ?_; (with_reducible refine (load_Even.calls k _ _ y456 t459 t460 _ ?side1 ?side2 A1.out).mono ?_); (case side1 => repeat (first | exact (Kd.R_reads' HO458.out).2.2 | (with_reducible refine cA ?_ _) | (with_reducible refine cN ?_ _) | (with_reducible refine cD ?_))); (case side2 => exact (Kd.R_reads' HO458.out).2.1); rintro e w10 ⟨v461, rfl, ho0, hb⟩; refine ⟨_, rfl, ?_⟩; have n0_ := aM (Kd.R_below (by (with_reducible repeat (first | apply rA | apply rN | apply rD)); exact HO458.out) hb); have n1_ := aM (Kd.R_lower ho0 (below_size (by repeat (first | (with_reducible first | exact HB.out | apply bA | apply pN | apply bD) | exact HB.out)))); have n2_ := aM (bS (by repeat (first | (with_reducible first | exact HB.out | apply bA | apply pN | apply bD) | exact HB.out)) hb); clear HO458 HB; have HO458 := n0_; have HO462 := n1_; have HB := n2_; clear n0_ n1_ n2_; (try clear hb); (try clear hb2); (try clear hk); (try clear hi); (try clear ho0); obtain ⟨Ao11, co11, eo11⟩ := Kd.R_slice HO462.out; subst eo11; have p463 : 0 ≤ (0 : Int) := (by omega); have q463 : 0 < (t459.length : Int) := oD (by first | (with_reducible assumption) | assumption); obtain ⟨ad463, e463, hx463_0⟩ := Kd.at_int (Kd.R_reads' HO462.out).2.2 0 p463 q463; cases e463; have qi463 : (0 < t459.length) = True := eq_true (by omega); (try rw [show ((0 : Int)).toNat = 0 from rfl] at hx463_0); (try rw [Addr.add_zero'] at hx463_0); replace p463 := eq_true p463; replace q463 := eq_true q463; have p464 : 0 ≤ (3 : Int) := (by omega); have q464 : 3 < (t459.length : Int) := oD (by first | (with_reducible assumption) | assumption); obtain ⟨ad464, e464, hx464_0⟩ := Kd.at_int (Kd.R_reads' HO462.out).2.2 3 p464 q464; obtain rfl : ad463 = ad464 := (by injection e464); (try simp only [show (3 : Int).toNat = 3 from rfl, Nat.reduceMul, Nat.reduceEqDiff, Go.Addr.add, ↓reduceIte] at hx464_0); have qi464 : (3 < t459.length) = True := eq_true (by omega); (try rw [show ((3 : Int)).toNat = 3 from rfl] at hx464_0); replace p464 := eq_true p464; replace q464 := eq_true q464))
      go_ret
      exact ⟨by first | rfl | (simp [errW_none, errW_some] <;> rfl) | (simp [*, errW_none, errW_some] <;> rfl), by repeat (first | (with_reducible first | exact HB.out | apply bA | apply pN | apply bD) | exact HB.out)⟩
     ·rw [if_neg c6] at H
      exact absurd H (by simp)
    ·rw [if_neg c5] at H
     have c5b0 : ((rd t459 0) == 250000) = false := beq_eq_false_iff_ne.mpr c5
     have c5b1 : ((rd t459 0) != 250000) = true := bne_iff_ne.mpr c5
     obtain rfl := Option.some.inj H
     go_enter Try.func16, Try.ntmps16
     go_wp2_with (first | ((with_reducible refine gate_dst (N := 5) rfl ?_); (try (refine gate_guard (by rfl) ?_; dsimp only)); refine Kd.R_lit k77 _ 77 ?hg (N := 5) ?hd (xs := ([(⟨2000000, 2000, 2000⟩ : S77)] : List (S77))) (inner := [.int .i64 2000000, .int .i64 2000, .int .i64 2000]) (ok := fun _ => True) (okp := fun _ => True) ?hr ?hp (fun _ hk => hk) trivial (Below.refl _ _) (Nat.le_refl _) (by simp) ?_; (case hd => rfl); (case hg => rfl); (case hr => first | (go_simp; done) | (go_simp; rfl)); (case hp => exact (Reps.c3 (show Kd.M k77 _ _ _ (⟨2000000, 2000, 2000⟩ : S77) [.int .i64 2000000, .int .i64 2000, .int .i64 2000] from (k77_mkM _ _ _ (⟨2000000, 2000, 2000⟩ : S77) )) (Reps.none _ _))); intro v457 w12 ho13 hb hg_ hnew_; clear hg_ hnew_; (first | rw [← Ny456.out] at ho13 | (simp only [Int.reduceToNat] at ho13; rw [← Ny456.out] at ho13)); have n0_ := aM (Kd.R_lower ho13 (below_size (by repeat (first | (with_reducible first | exact HB.out | apply bA | apply pN | apply bD) | exact HB.out)))); have n1_ := aM (bS (by repeat (first | (with_reducible first | exact HB.out | apply bA | apply pN | apply bD) | exact HB.out)) hb); clear HB; have HO458 := n0_; have HB := n1_; clear n0_ n1_ hb ho13; obtain ⟨Ao14, co14, eo14⟩ := Kd.R_slice HO458.out; subst eo14) | ((with_reducible refine gC (f := 17) rfl ?_); refine gL (some 6) rfl rfl Try.func17 (by kernel_rfl) rfl #[.slice Ao14 y456.length co14] rfl (by (try simp only [mA, List.map_cons, List.map_nil]); first | done | rfl | (simp only [List.length_drop, List.length_take]; rfl)) ?_; (with_reducible refine (load_Even.calls k _ _ y456 t459 t460 _ ?side1 ?side2 A1.out).mono ?_); (case side1 => repeat (first | exact (Kd.R_reads' HO458.out).2.2 | (with_reducible refine cA ?_ _) | (with_reducible refine cN ?_ _) | (with_reducible refine cD ?_))); (case side2 => exact (Kd.R_reads' HO458.out).2.1); rintro e w15 ⟨v461, rfl, ho0, hb⟩; refine ⟨_, rfl, ?_⟩; have n0_ := aM (Kd.R_below (by (with_reducible repeat (first | apply rA | apply rN | apply rD)); exact HO458.out) hb); have n1_ := aM (Kd.R_lower ho0 (below_size (by repeat (first | (with_reducible first | exact HB.out | apply bA | apply pN | apply bD) | exact HB.out)))); have n2_ := aM (bS (by repeat (first | (with_reducible first | exact HB.out | apply bA | apply pN | apply bD) | exact HB.out)) hb); clear HO458 HB; have HO458 := n0_; have HO462 := n1_; have HB := n2_; clear n0_ n1_ n2_; (try clear hb); (try clear hb2); (try clear hk); (try clear hi); (try clear ho0); obtain ⟨Ao16, co16, eo16⟩ := Kd.R_slice HO462.out; subst eo16; have p463 : 0 ≤ (0 : Int) := (by omega); have q463 : 0 < (t459.length : Int) := oD (by first | (with_reducible assumption) | assumption); obtain ⟨ad463, e463, hx463_0⟩ := Kd.at_int (Kd.R_reads' HO462.out).2.2 0 p463 q463; cases e463; have qi463 : (0 < t459.length) = True := eq_true (by omega); (try rw [show ((0 : Int)).toNat = 0 from rfl] at hx463_0); (try rw [Addr.add_zero'] at hx463_0); replace p463 := eq_true p463; replace q463 := eq_true q463))
     go_ret
     exact ⟨by first | rfl | (simp [errW_none, errW_some] <;> rfl) | (simp [*, errW_none, errW_some] <;> rfl), by repeat (first | (with_reducible first | exact HB.out | apply bA | apply pN | apply bD) | exact HB.out)⟩
   ·rw [if_neg c4] at H
    exact absurd H (by simp)
  ·rw [if_neg c3] at H
   have c3b0 : ((t459.length : Int) == 4) = false := beq_eq_false_iff_ne.mpr c3
   have c3b1 : ((t459.length : Int) != 4) = true := bne_iff_ne.mpr c3
   obtain rfl := Option.some.inj H
   go_enter Try.func16, Try.ntmps16
   go_wp2_with (first | ((with_reducible refine gate_dst (N := 5) rfl ?_); (try (refine gate_guard (by rfl) ?_; dsimp only)); refine Kd.R_lit k77 _ 77 ?hg (N := 5) ?hd (xs := ([(⟨2000000, 2000, 2000⟩ : S77)] : List (S77))) (inner := [.int .i64 2000000, .int .i64 2000, .int .i64 2000]) (ok := fun _ => True) (okp := fun _ => True) ?hr ?hp (fun _ hk => hk) trivial (Below.refl _ _) (Nat.le_refl _) (by simp) ?_; (case hd => rfl); (case hg => rfl); (case hr => first | (go_simp; done) | (go_simp; rfl)); (case hp => exact (Reps.c3 (show Kd.M k77 _ _ _ (⟨2000000, 2000, 2000⟩ : S77) [.int .i64 2000000, .int .i64 2000, .int .i64 2000] from (k77_mkM _ _ _ (⟨2000000, 2000, 2000⟩ : S77) )) (Reps.none _ _))); intro v457 w17 ho18 hb hg_ hnew_; clear hg_ hnew_; (first | rw [← Ny456.out] at ho18 | (simp only [Int.reduceToNat] at ho18; rw [← Ny456.out] at ho18)); have n0_ := aM (Kd.R_lower ho18 (below_size (by repeat (first | (with_reducible first | exact HB.out | apply bA | apply pN | apply bD) | exact HB.out)))); have n1_ := aM (bS (by repeat (first | (with_reducible first | exact HB.out | apply bA | apply pN | apply bD) | exact HB.out)) hb); clear HB; have HO458 := n0_; have HB := n1_; clear n0_ n1_ hb ho18; obtain ⟨Ao19, co19, eo19⟩ := Kd.R_slice HO458.out; subst eo19) | ((with_reducible refine gC (f := 17) rfl ?_); refine gL (some 6) rfl rfl Try.func17 (by kernel_rfl) rfl #[.slice Ao19 y456.length co19] rfl (by (try simp only [mA, List.map_cons, List.map_nil]); first | done | rfl | (simp only [List.length_drop, List.length_take]; rfl)) ?_; (with_reducible refine (load_Even.calls k _ _ y456 t459 t460 _ ?side1 ?side2 A1.out).mono ?_); (case side1 => repeat (first | exact (Kd.R_reads' HO458.out).2.2 | (with_reducible refine cA ?_ _) | (with_reducible refine cN ?_ _) | (with_reducible refine cD ?_))); (case side2 => exact (Kd.R_reads' HO458.out).2.1); rintro e w20 ⟨v461, rfl, ho0, hb⟩; refine ⟨_, rfl, ?_⟩; have n0_ := aM (Kd.R_below (by (with_reducible repeat (first | apply rA | apply rN | apply rD)); exact HO458.out) hb); have n1_ := aM (Kd.R_lower ho0 (below_size (by repeat (first | (with_reducible first | exact HB.out | apply bA | apply pN | apply bD) | exact HB.out)))); have n2_ := aM (bS (by repeat (first | (with_reducible first | exact HB.out | apply bA | apply pN | apply bD) | exact HB.out)) hb); clear HO458 HB; have HO458 := n0_; have HO462 := n1_; have HB := n2_; clear n0_ n1_ n2_; (try clear hb); (try clear hb2); (try clear hk); (try clear hi); (try clear ho0); obtain ⟨Ao21, co21, eo21⟩ := Kd.R_slice HO462.out; subst eo21))
   go_ret
   exact ⟨by first | rfl | (simp [errW_none, errW_some] <;> rfl) | (simp [*, errW_none, errW_some] <;> rfl), by repeat (first | (with_reducible first | exact HB.out | apply bA | apply pN | apply bD) | exact HB.out)⟩
 ·rw [if_neg c2] at H
  have c2b0 : (t460 == 0) = false := beq_eq_false_iff_ne.mpr c2
  have c2b1 : (t460 != 0) = true := bne_iff_ne.mpr c2
  obtain rfl := Option.some.inj H
  go_enter Try.func16, Try.ntmps16
  go_wp2_with (first | ((with_reducible refine gate_dst (N := 5) rfl ?_); (try (refine gate_guard (by rfl) ?_; dsimp only)); refine Kd.R_lit k77 _ 77 ?hg (N := 5) ?hd (xs := ([(⟨2000000, 2000, 2000⟩ : S77)] : List (S77))) (inner := [.int .i64 2000000, .int .i64 2000, .int .i64 2000]) (ok := fun _ => True) (okp := fun _ => True) ?hr ?hp (fun _ hk => hk) trivial (Below.refl _ _) (Nat.le_refl _) (by simp) ?_; (case hd => rfl); (case hg => rfl); (case hr => first | (go_simp; done) | (go_simp; rfl)); (case hp => exact (Reps.c3 (show Kd.M k77 _ _ _ (⟨2000000, 2000, 2000⟩ : S77) [.int .i64 2000000, .int .i64 2000, .int .i64 2000] from (k77_mkM _ _ _ (⟨2000000, 2000, 2000⟩ : S77) )) (Reps.none _ _))); intro v457 w22 ho23 hb hg_ hnew_; clear hg_ hnew_; (first | rw [← Ny456.out] at ho23 | (simp only [Int.reduceToNat] at ho23; rw [← Ny456.out] at ho23)); have n0_ := aM (Kd.R_lower ho23 (below_size (by repeat (first | (with_reducible first | exact HB.out | apply bA | apply pN | apply bD) | exact HB.out)))); have n1_ := aM (bS (by repeat (first | (with_reducible first | exact HB.out | apply bA | apply pN | apply bD) | exact HB.out)) hb); clear HB; have HO458 := n0_; have HB := n1_; clear n0_ n1_ hb ho23; obtain ⟨Ao24, co24, eo24⟩ := Kd.R_slice HO458.out; subst eo24) | ((with_reducible refine gC (f := 17) rfl ?_); refine gL (some 6) rfl rfl Try.func17 (by kernel_rfl) rfl #[.slice Ao24 y456.length co24] rfl (by (try simp only [mA, List.map_cons, List.map_nil]); first | done | rfl | (simp only [List.length_drop, List.length_take]; rfl)) ?_; (with_reducible refine (load_Even.calls k _ _ y456 t459 t460 _ ?side1 ?side2 A1.out).mono ?_); (case side1 => repeat (first | exact (Kd.R_reads' HO458.out).2.2 | (with_reducible refine cA ?_ _) | (with_reducible refine cN ?_ _) | (with_reducible refine cD ?_))); (case side2 => exact (Kd.R_reads' HO458.out).2.1); rintro e w25 ⟨v461, rfl, ho0, hb⟩; refine ⟨_, rfl, ?_⟩; have n0_ := aM (Kd.R_below (by (with_reducible repeat (first | apply rA | apply rN | apply rD)); exact HO458.out) hb); have n1_ := aM (Kd.R_lower ho0 (below_size (by repeat (first | (with_reducible first | exact HB.out | apply bA | apply pN | apply bD) | exact HB.out)))); have n2_ := aM (bS (by repeat (first | (with_reducible first | exact HB.out | apply bA | apply pN | apply bD) | exact HB.out)) hb); clear HO458 HB; have HO458 := n0_; have HO462 := n1_; have HB := n2_; clear n0_ n1_ n2_; (try clear hb); (try clear hb2); (try clear hk); (try clear hi); (try clear ho0)))
  go_ret
  exact ⟨by first | rfl | (simp [errW_none, errW_some] <;> rfl) | (simp [*, errW_none, errW_some] <;> rfl), by repeat (first | (with_reducible first | exact HB.out | apply bA | apply pN | apply bD) | exact HB.out)⟩
mutual
def dynamometerlaw7_LoadCountAddsUp.j0 : Nat → List (S77) → Int → Int → Int → Int → Int → Int → Bool → Option (Bool)
 | 0, _, _, _, _, _, _, _, _ => none
 | k + 1, x0, x1, x3, x9, x11, x13, x14, x45 => if x45 = true then ((dynamometerlaw7_even.f k).bind fun t471 => (some t471)) else (if x14 = 0 then (dynamometerlaw7_LoadCountAddsUp.j1 k x0 x1 x3 x13 ((wrap64 (x9 + x11)) != x13)) else (dynamometerlaw7_LoadCountAddsUp.j1 k x0 x1 x3 x13 true))
def dynamometerlaw7_LoadCountAddsUp.j1 : Nat → List (S77) → Int → Int → Int → Bool → Option (Bool)
 | 0, _, _, _, _, _ => none
 | k + 1, x0, x1, x3, x13, x55 => if x55 = true then (some false) else ((load_Even.f k x0).bind fun bt472 => (if bt472.2 = 0 then (dynamometerlaw7_LoadCountAddsUp.l0 k x1 x3 x13 bt472.1 0 0) else (if bt472.2 = 3 then ((dynamometerlaw7_even.f k).bind fun t476 => (some t476)) else (some false))))
def dynamometerlaw7_LoadCountAddsUp.l0 : Nat → Int → Int → Int → List Int → Int → Int → Option (Bool)
 | 0, _, _, _, _, _, _ => none
 | k + 1, x1, x3, x13, x15, x17, x18 => if x18 < (x15.length : Int) then (if 0 ≤ x18 then (if (rd x15 x18) ≥ x1 then (if (rd x15 x18) < x3 then (dynamometerlaw7_LoadCountAddsUp.l0 k x1 x3 x13 x15 (wrap64 (x17 + 1)) (wrap64 (x18 + 1))) else (dynamometerlaw7_LoadCountAddsUp.l0 k x1 x3 x13 x15 x17 (wrap64 (x18 + 1)))) else (dynamometerlaw7_LoadCountAddsUp.l0 k x1 x3 x13 x15 x17 (wrap64 (x18 + 1)))) else (none)) else (if x17 = x13 then ((dynamometerlaw7_even.f k).bind fun t479 => (some t479)) else (some false))
end
def dynamometerlaw7_LoadCountAddsUp.f (k : Nat) (l0 : List (S77)) (a1 : Int) (a2 : Int) (a3 : Int) : Option (Bool) := (load_Count.f k l0 a1 a2).bind fun bt465 => ((load_Count.f k l0 a2 a3).bind fun bt467 => ((load_Count.f k l0 a1 a3).bind fun bt469 => (if bt465.2 = 0 then (dynamometerlaw7_LoadCountAddsUp.j0 k l0 a1 a3 bt465.1 bt467.1 bt469.1 bt469.2 (bt467.2 != 0)) else (dynamometerlaw7_LoadCountAddsUp.j0 k l0 a1 a3 bt465.1 bt467.1 bt469.1 bt469.2 true))))
set_option maxHeartbeats 8000000 in
set_option maxRecDepth 100000 in
theorem dynamometerlaw7_LoadCountAddsUp.calls (k : Nat) (A0 : Option Addr) (c0 : Nat) (l0 : List (S77)) (a1 : Int) (a2 : Int) (a3 : Int) (r : Bool) (w : World) (hr0 : Kd.C k77 w A0 l0.length l0) (hc0 : l0.length ≤ c0) (h : dynamometerlaw7_LoadCountAddsUp.f k l0 a1 a2 a3 = some r) :
  Calls Try.prog 6 #[.slice A0 l0.length c0, .int .i64 a1, .int .i64 a2, .int .i64 a3] w fun e w' => e = .returned (.bool r) ∧ Below w.heap.size w w' := by
 have HR0 := aM hr0
 have HC0 := aM hc0
 clear hr0 hc0
 have HB := aM (Below.refl w.heap.size w)
 have H : ((load_Count.f k l0 a1 a2).bind fun bt465 => ((load_Count.f k l0 a2 a3).bind fun bt467 => ((load_Count.f k l0 a1 a3).bind fun bt469 => (if bt465.2 = 0 then (dynamometerlaw7_LoadCountAddsUp.j0 k l0 a1 a3 bt465.1 bt467.1 bt469.1 bt469.2 (bt467.2 != 0)) else (dynamometerlaw7_LoadCountAddsUp.j0 k l0 a1 a3 bt465.1 bt467.1 bt469.1 bt469.2 true))))) = some r := h
 clear h
 replace H := oB H
 obtain ⟨⟨t465, t466⟩, A50, H⟩ := H
 replace H : ((load_Count.f k l0 a2 a3).bind fun bt467 => ((load_Count.f k l0 a1 a3).bind fun bt469 => (if t466 = 0 then (dynamometerlaw7_LoadCountAddsUp.j0 k l0 a1 a3 t465 bt467.1 bt469.1 bt469.2 (bt467.2 != 0)) else (dynamometerlaw7_LoadCountAddsUp.j0 k l0 a1 a3 t465 bt467.1 bt469.1 bt469.2 true)))) = some r := H
 have A5 := aM A50; clear A50
 replace H := oB H
 obtain ⟨⟨t467, t468⟩, A60, H⟩ := H
 replace H : ((load_Count.f k l0 a1 a3).bind fun bt469 => (if t466 = 0 then (dynamometerlaw7_LoadCountAddsUp.j0 k l0 a1 a3 t465 t467 bt469.1 bt469.2 (t468 != 0)) else (dynamometerlaw7_LoadCountAddsUp.j0 k l0 a1 a3 t465 t467 bt469.1 bt469.2 true))) = some r := H
 have A6 := aM A60; clear A60
 replace H := oB H
 obtain ⟨⟨t469, t470⟩, A70, H⟩ := H
 replace H : (if t466 = 0 then (dynamometerlaw7_LoadCountAddsUp.j0 k l0 a1 a3 t465 t467 t469 t470 (t468 != 0)) else (dynamometerlaw7_LoadCountAddsUp.j0 k l0 a1 a3 t465 t467 t469 t470 true)) = some r := H
 have A7 := aM A70; clear A70; have HC8 := aM H; clear H
 go_enter Try.func6, Try.ntmps6
 go_upto_region 4 with (first | ((with_reducible refine gC (f := 15) rfl ?_); refine gL (some 23) rfl rfl Try.func15 (by kernel_rfl) rfl #[.slice A0 l0.length c0, .int .i64 a1, .int .i64 a2] rfl (by (try simp only [mA, List.map_cons, List.map_nil]); first | done | rfl | (simp only [List.length_drop, List.length_take]; rfl)) ?_; (with_reducible refine (load_Count.calls k _ _ l0 a1 a2 t465 t466 _ ?side1 ?side2 A5.out).mono ?_); (case side1 => repeat (first | exact HR0.out | (with_reducible refine cA ?_ _) | (with_reducible refine cN ?_ _) | (with_reducible refine cD ?_))); (case side2 => exact HC0.out); rintro e w9 ⟨rfl, hb⟩; refine ⟨_, rfl, ?_⟩; have n0_ := aM (bS (by repeat (first | (with_reducible first | exact HB.out | apply bA | apply pN | apply bD) | exact HB.out)) hb); clear HB; have HB := n0_; clear n0_; (try clear hb); (try clear hb2); (try clear hk); (try clear hi)) | ((with_reducible refine gC (f := 15) rfl ?_); refine gL (some 30) rfl rfl Try.func15 (by kernel_rfl) rfl #[.slice A0 l0.length c0, .int .i64 a2, .int .i64 a3] rfl (by (try simp only [mA, List.map_cons, List.map_nil]); first | done | rfl | (simp only [List.length_drop, List.length_take]; rfl)) ?_; (with_reducible refine (load_Count.calls k _ _ l0 a2 a3 t467 t468 _ ?side1 ?side2 A6.out).mono ?_); (case side1 => repeat (first | exact (Kd.C_below HR0.out HB.out) | (with_reducible refine cA ?_ _) | (with_reducible refine cN ?_ _) | (with_reducible refine cD ?_))); (case side2 => exact HC0.out); rintro e w10 ⟨rfl, hb⟩; refine ⟨_, rfl, ?_⟩; have n0_ := aM (bS (by repeat (first | (with_reducible first | exact HB.out | apply bA | apply pN | apply bD) | exact HB.out)) hb); clear HB; have HB := n0_; clear n0_; (try clear hb); (try clear hb2); (try clear hk); (try clear hi)) | ((with_reducible refine gC (f := 15) rfl ?_); refine gL (some 37) rfl rfl Try.func15 (by kernel_rfl) rfl #[.slice A0 l0.length c0, .int .i64 a1, .int .i64 a3] rfl (by (try simp only [mA, List.map_cons, List.map_nil]); first | done | rfl | (simp only [List.length_drop, List.length_take]; rfl)) ?_; (with_reducible refine (load_Count.calls k _ _ l0 a1 a3 t469 t470 _ ?side1 ?side2 A7.out).mono ?_); (case side1 => repeat (first | exact (Kd.C_below HR0.out HB.out) | (with_reducible refine cA ?_ _) | (with_reducible refine cN ?_ _) | (with_reducible refine cD ?_))); (case side2 => exact HC0.out); rintro e w11 ⟨rfl, hb⟩; refine ⟨_, rfl, ?_⟩; have n0_ := aM (bS (by repeat (first | (with_reducible first | exact HB.out | apply bA | apply pN | apply bD) | exact HB.out)) hb); clear HB; have HB := n0_; clear n0_; (try clear hb); (try clear hb2); (try clear hk); (try clear hi)))
 (try simp only [Act.put, sI, sZ, sS])
 go_cut [45] (fun v45 wc => ∃ (kq : Nat) (x45_7 : Bool), v45 = .bool x45_7 ∧ Aside0 (dynamometerlaw7_LoadCountAddsUp.j0 kq l0 a1 a3 t465 t467 t469 t470 x45_7 = some r) ∧ Aside0 (kq ≤ k) ∧ Aside0 (Below w.heap.size w wc))
 case first =>
  have H := HC8.out
  clear HC8
  by_cases c12 : t466 = 0
  ·rw [if_pos c12] at H
   have c12b0 : (t466 == 0) = true := beq_iff_eq.mpr c12
   have c12b1 : (t466 != 0) = false := bne_eq_false_iff_eq.mpr c12
   clear c12
   (first | rw [c12b0] | (simp only [i64_w, i32_w]; rw [c12b0]) | skip)
   have H' := aM H; clear H
   go_wp2
   go_meet
   case rel => exact ⟨_, ((t468 != 0)), (by first | rfl | (simp; done) | (simp [*]; done)), H', ⟨by first | omega | exact Nat.le_refl _⟩, ⟨by repeat (first | (with_reducible first | exact HB.out | apply bA | apply pN | apply bD) | exact HB.out)⟩⟩
  ·rw [if_neg c12] at H
   have c12b0 : (t466 == 0) = false := beq_eq_false_iff_ne.mpr c12
   have c12b1 : (t466 != 0) = true := bne_iff_ne.mpr c12
   (first | rw [c12b0] | (simp only [i64_w, i32_w]; rw [c12b0]) | skip)
   have H' := aM H; clear H
   go_wp2
   go_meet
   case rel => exact ⟨_, (true), (by first | rfl | (simp; done) | (simp [*]; done)), H', ⟨by first | omega | exact Nat.le_refl _⟩, ⟨by repeat (first | (with_reducible first | exact HB.out | apply bA | apply pN | apply bD) | exact HB.out)⟩⟩
 case rest =>
  clear HC8
  try clear c1
  try clear p2
  try clear c6
  try clear c12
  try clear c12b0
  try clear c12b1
  obtain ⟨kq, x45_7, rfl, HA, HJ7, HB⟩ := hcut
  cases kq with
  | zero => exact absurd HA.out (by simp [dynamometerlaw7_LoadCountAddsUp.j0])
  | succ kj7 =>
   have H := HA.out
   clear HA
   simp only [dynamometerlaw7_LoadCountAddsUp.j0] at H
   by_cases c13 : x45_7 = true
   ·subst c13
    have H1 : ((dynamometerlaw7_even.f kj7).bind fun t471 => (some t471)) = some r := by rw [if_pos rfl] at H; exact H
    clear H
    have H := H1
    clear H1
    replace H := oB H
    obtain ⟨t471, A140, H⟩ := H
    replace H : (some t471) = some r := H
    have A14 := aM A140; clear A140
    obtain rfl := Option.some.inj H
    go_wp2_with (first | ((with_reducible refine gC (f := 16) rfl ?_); refine gL (some 46) rfl rfl Try.func16 (by kernel_rfl) rfl #[] rfl (by (try simp only [mA, List.map_cons, List.map_nil]); first | done | rfl | (simp only [List.length_drop, List.length_take]; rfl)) ?_; (with_reducible refine (dynamometerlaw7_even.calls kj7  t471 _ A14.out).mono ?_); rintro e w15 ⟨rfl, hb⟩; refine ⟨_, rfl, ?_⟩; have n0_ := aM (bS (by repeat (first | (with_reducible first | exact HB.out | apply bA | apply pN | apply bD) | exact HB.out)) hb); clear HB; have HB := n0_; clear n0_; (try clear hb); (try clear hb2); (try clear hk); (try clear hi)))
    go_ret
    exact ⟨by first | rfl | (simp [errW_none, errW_some] <;> rfl) | (simp [*, errW_none, errW_some] <;> rfl), by repeat (first | (with_reducible first | exact HB.out | apply bA | apply pN | apply bD) | exact HB.out)⟩
   ·replace c13 := Bool.eq_false_iff.mpr c13
    subst c13
    have H1 : (if t470 = 0 then (dynamometerlaw7_LoadCountAddsUp.j1 kj7 l0 a1 a3 t469 ((wrap64 (t465 + t467)) != t469)) else (dynamometerlaw7_LoadCountAddsUp.j1 kj7 l0 a1 a3 t469 true)) = some r := by rw [if_neg (show ¬ (false = true) by decide)] at H; exact H
    clear H
    have H := H1
    clear H1; have HC16 := aM H; clear H
    go_upto_region 6 with (fail)
    go_cut [55] (fun v55 wc => ∃ (kq : Nat) (x55_15 : Bool), v55 = .bool x55_15 ∧ Aside0 (dynamometerlaw7_LoadCountAddsUp.j1 kq l0 a1 a3 t469 x55_15 = some r) ∧ Aside0 (kq ≤ kj7) ∧ Aside0 (Below w.heap.size w wc))
    case first =>
     have H := HC16.out
     clear HC16
     by_cases c17 : t470 = 0
     ·rw [if_pos c17] at H
      have c17b0 : (t470 == 0) = true := beq_iff_eq.mpr c17
      have c17b1 : (t470 != 0) = false := bne_eq_false_iff_eq.mpr c17
      clear c17
      (first | rw [c17b0] | (simp only [i64_w, i32_w]; rw [c17b0]) | skip)
      have H' := aM H; clear H
      go_wp2
      go_meet
      case rel => exact ⟨_, (((wrap64 (t465 + t467)) != t469)), (by first | rfl | (simp; done) | (simp [*]; done)), H', ⟨by have := HJ7.out; first | omega | exact Nat.le_refl _⟩, ⟨by repeat (first | (with_reducible first | exact HB.out | apply bA | apply pN | apply bD) | exact HB.out)⟩⟩
     ·rw [if_neg c17] at H
      have c17b0 : (t470 == 0) = false := beq_eq_false_iff_ne.mpr c17
      have c17b1 : (t470 != 0) = true := bne_iff_ne.mpr c17
      (first | rw [c17b0] | (simp only [i64_w, i32_w]; rw [c17b0]) | skip)
      have H' := aM H; clear H
      go_wp2
      go_meet
      case rel => exact ⟨_, (true), (by first | rfl | (simp; done) | (simp [*]; done)), H', ⟨by have := HJ7.out; first | omega | exact Nat.le_refl _⟩, ⟨by repeat (first | (with_reducible first | exact HB.out | apply bA | apply pN | apply bD) | exact HB.out)⟩⟩
    case rest =>
     clear HC16
     try clear c1
     try clear p2
     try clear c6
     try clear p6
     try clear c12
     try clear c12b0
     try clear c12b1
     try clear c13
     try clear c15
     try clear c16
     try clear c17
     try clear c17b0
     try clear c17b1
     try clear p2
     obtain ⟨kq, x55_15, rfl, HA, HJ15, HB⟩ := hcut
     cases kq with
     | zero => exact absurd HA.out (by simp [dynamometerlaw7_LoadCountAddsUp.j1])
     | succ kj15 =>
      have H := HA.out
      clear HA
      simp only [dynamometerlaw7_LoadCountAddsUp.j1] at H
      by_cases c18 : x55_15 = true
      ·subst c18
       have H1 : (some false) = some r := by rw [if_pos rfl] at H; exact H
       clear H
       have H := H1
       clear H1
       obtain rfl := Option.some.inj H
       go_wp2
       go_ret
       exact ⟨by first | rfl | (simp [errW_none, errW_some] <;> rfl) | (simp [*, errW_none, errW_some] <;> rfl), by repeat (first | (with_reducible first | exact HB.out | apply bA | apply pN | apply bD) | exact HB.out)⟩
      ·replace c18 := Bool.eq_false_iff.mpr c18
       subst c18
       have H1 : ((load_Even.f kj15 l0).bind fun bt472 => (if bt472.2 = 0 then (dynamometerlaw7_LoadCountAddsUp.l0 kj15 a1 a3 t469 bt472.1 0 0) else (if bt472.2 = 3 then ((dynamometerlaw7_even.f kj15).bind fun t476 => (some t476)) else (some false)))) = some r := by rw [if_neg (show ¬ (false = true) by decide)] at H; exact H
       clear H
       have H := H1
       clear H1
       replace H := oB H
       obtain ⟨⟨t472, t473⟩, A190, H⟩ := H
       replace H : (if t473 = 0 then (dynamometerlaw7_LoadCountAddsUp.l0 kj15 a1 a3 t469 t472 0 0) else (if t473 = 3 then ((dynamometerlaw7_even.f kj15).bind fun t476 => (some t476)) else (some false))) = some r := H
       have A19 := aM A190; clear A190
       by_cases c20 : t473 = 0
       ·rw [if_pos c20] at H
        have c20b0 : (t473 == 0) = true := beq_iff_eq.mpr c20
        have c20b1 : (t473 != 0) = false := bne_eq_false_iff_eq.mpr c20
        clear c20; have H' := aM H; clear H
        go_wp2_with (first | ((with_reducible refine gC (f := 17) rfl ?_); refine gL (some 58) rfl rfl Try.func17 (by kernel_rfl) rfl #[.slice A0 l0.length c0] rfl (by (try simp only [mA, List.map_cons, List.map_nil]); first | done | rfl | (simp only [List.length_drop, List.length_take]; rfl)) ?_; (with_reducible refine (load_Even.calls kj15 _ _ l0 t472 t473 _ ?side1 ?side2 A19.out).mono ?_); (case side1 => repeat (first | exact (Kd.C_below HR0.out HB.out) | (with_reducible refine cA ?_ _) | (with_reducible refine cN ?_ _) | (with_reducible refine cD ?_))); (case side2 => exact HC0.out); rintro e w21 ⟨v474, rfl, ho0, hb⟩; refine ⟨_, rfl, ?_⟩; have n0_ := aM (Kd.R_lower ho0 (below_size (by repeat (first | (with_reducible first | exact HB.out | apply bA | apply pN | apply bD) | exact HB.out)))); have n1_ := aM (bS (by repeat (first | (with_reducible first | exact HB.out | apply bA | apply pN | apply bD) | exact HB.out)) hb); clear HB; have HO475 := n0_; have HB := n1_; clear n0_ n1_; (try clear hb); (try clear hb2); (try clear hk); (try clear hi); (try clear ho0)))
        go_loopg [17, 18] kj15 (fun kq v17 v18 w' => ∃ (x17_3 : Int) (x18_3 : Int), v17 = .int .i64 x17_3 ∧ v18 = .int .i64 x18_3 ∧ Aside0 (dynamometerlaw7_LoadCountAddsUp.l0 kq a1 a3 t469 t472 x17_3 x18_3 = some r) ∧ Aside0 (kq ≤ kj15) ∧ Aside0 (Kd.R (Kd.int .i64) 3 w' w.heap.size (fun _ => True) v474 t472) ∧ Aside0 (Below w.heap.size w w'))
        case atStart => exact ⟨(0), (0), (by first | rfl | (simp; done) | (simp [*]; done)), (by first | rfl | (simp; done) | (simp [*]; done)), H', ⟨Nat.le_refl _⟩, ⟨by (with_reducible repeat (first | apply rA | apply rN | apply rD)); exact HO475.out⟩, ⟨by repeat (first | (with_reducible first | exact HB.out | apply bA | apply pN | apply bD) | exact HB.out)⟩⟩
        case round =>
         clear H'
         try clear c1
         try clear c2
         try clear p2
         try clear c6
         try clear p6
         try clear c12
         try clear c12b0
         try clear c12b1
         try clear c13
         try clear c15
         try clear c16
         try clear c17
         try clear c17b0
         try clear c17b1
         try clear c18
         try clear c20
         try clear c20b0
         try clear c20b1
         try clear p2
         try clear p6
         obtain ⟨x17_3, x18_3, rfl, rfl, HA, HK3, HO_15, HB⟩ := hrel
         cases gk with
         | zero => exact absurd HA.out (by simp [dynamometerlaw7_LoadCountAddsUp.l0])
         | succ k3 =>
          have H := HA.out
          clear HA
          simp only [dynamometerlaw7_LoadCountAddsUp.l0] at H
          by_cases c22 : x18_3 < (t472.length : Int)
          ·rw [if_pos c22] at H
           have c22b0 : decide (x18_3 < (t472.length : Int)) = true := dT c22
           clear c22
           by_cases c23 : 0 ≤ x18_3
           ·rw [if_pos c23] at H
            have c23b0 : decide (0 ≤ x18_3) = true := dT c23
            clear c23
            by_cases c24 : (rd t472 x18_3) ≥ a1
            ·rw [if_pos c24] at H
             have c24b0 : decide (a1 ≤ (rd t472 x18_3)) = true := dT c24
             clear c24
             by_cases c25 : (rd t472 x18_3) < a3
             ·rw [if_pos c25] at H
              have c25b0 : decide ((rd t472 x18_3) < a3) = true := dT c25
              clear c25; have H' := aM H; clear H
              obtain ⟨Ao26, co26, eo26⟩ := Kd.R_slice HO_15.out
              subst eo26
              have p477 : 0 ≤ (x18_3 : Int) := oD (by first | (with_reducible assumption) | assumption)
              have q477 : x18_3 < (t472.length : Int) := oD (by first | (with_reducible assumption) | assumption)
              obtain ⟨ad477, e477, hx477_0⟩ := Kd.at_int (Kd.R_reads' HO_15.out).2.2 x18_3 p477 q477
              cases e477
              replace p477 := eq_true p477
              replace q477 := eq_true q477
              have p478 : 0 ≤ (x18_3 : Int) := oD (by first | (with_reducible assumption) | assumption)
              have q478 : x18_3 < (t472.length : Int) := oD (by first | (with_reducible assumption) | assumption)
              obtain ⟨ad478, e478, hx478_0⟩ := Kd.at_int (Kd.R_reads' HO_15.out).2.2 x18_3 p478 q478
              obtain rfl : ad477 = ad478 := (by injection e478)
              replace p478 := eq_true p478
              replace q478 := eq_true q478
              go_wp2
              go_roundg k3
              case measure => have := HJ7.out; have := HJ15.out; have := HK3.out; omega
              case rel => exact ⟨(wrap64 (x17_3 + 1)), (wrap64 (x18_3 + 1)), (by first | rfl | (simp; done) | (simp [*]; done)), (by first | rfl | (simp; done) | (simp [*]; done)), H', ⟨by have := HJ7.out; have := HJ15.out; have := HK3.out; omega⟩, ⟨by (with_reducible repeat (first | apply rA | apply rN | apply rD)); exact HO_15.out⟩, ⟨by repeat (first | (with_reducible first | exact HB.out | apply bA | apply pN | apply bD) | exact HB.out)⟩⟩
             ·rw [if_neg c25] at H
              have c25b0 : decide ((rd t472 x18_3) < a3) = false := decide_eq_false c25
              clear c25; have H' := aM H; clear H
              obtain ⟨Ao27, co27, eo27⟩ := Kd.R_slice HO_15.out
              subst eo27
              have p477 : 0 ≤ (x18_3 : Int) := oD (by first | (with_reducible assumption) | assumption)
              have q477 : x18_3 < (t472.length : Int) := oD (by first | (with_reducible assumption) | assumption)
              obtain ⟨ad477, e477, hx477_0⟩ := Kd.at_int (Kd.R_reads' HO_15.out).2.2 x18_3 p477 q477
              cases e477
              replace p477 := eq_true p477
              replace q477 := eq_true q477
              have p478 : 0 ≤ (x18_3 : Int) := oD (by first | (with_reducible assumption) | assumption)
              have q478 : x18_3 < (t472.length : Int) := oD (by first | (with_reducible assumption) | assumption)
              obtain ⟨ad478, e478, hx478_0⟩ := Kd.at_int (Kd.R_reads' HO_15.out).2.2 x18_3 p478 q478
              obtain rfl : ad477 = ad478 := (by injection e478)
              replace p478 := eq_true p478
              replace q478 := eq_true q478
              go_wp2
              go_roundg k3
              case measure => have := HJ7.out; have := HJ15.out; have := HK3.out; omega
              case rel => exact ⟨(x17_3), (wrap64 (x18_3 + 1)), (by first | rfl | (simp; done) | (simp [*]; done)), (by first | rfl | (simp; done) | (simp [*]; done)), H', ⟨by have := HJ7.out; have := HJ15.out; have := HK3.out; omega⟩, ⟨by (with_reducible repeat (first | apply rA | apply rN | apply rD)); exact HO_15.out⟩, ⟨by repeat (first | (with_reducible first | exact HB.out | apply bA | apply pN | apply bD) | exact HB.out)⟩⟩
            ·rw [if_neg c24] at H
             have c24b0 : decide (a1 ≤ (rd t472 x18_3)) = false := decide_eq_false c24
             clear c24; have H' := aM H; clear H
             obtain ⟨Ao28, co28, eo28⟩ := Kd.R_slice HO_15.out
             subst eo28
             have p477 : 0 ≤ (x18_3 : Int) := oD (by first | (with_reducible assumption) | assumption)
             have q477 : x18_3 < (t472.length : Int) := oD (by first | (with_reducible assumption) | assumption)
             obtain ⟨ad477, e477, hx477_0⟩ := Kd.at_int (Kd.R_reads' HO_15.out).2.2 x18_3 p477 q477
             cases e477
             replace p477 := eq_true p477
             replace q477 := eq_true q477
             go_wp2
             go_roundg k3
             case measure => have := HJ7.out; have := HJ15.out; have := HK3.out; omega
             case rel => exact ⟨(x17_3), (wrap64 (x18_3 + 1)), (by first | rfl | (simp; done) | (simp [*]; done)), (by first | rfl | (simp; done) | (simp [*]; done)), H', ⟨by have := HJ7.out; have := HJ15.out; have := HK3.out; omega⟩, ⟨by (with_reducible repeat (first | apply rA | apply rN | apply rD)); exact HO_15.out⟩, ⟨by repeat (first | (with_reducible first | exact HB.out | apply bA | apply pN | apply bD) | exact HB.out)⟩⟩
           ·rw [if_neg c23] at H
            exact absurd H (by simp)
          ·rw [if_neg c22] at H
           have c22b0 : decide (x18_3 < (t472.length : Int)) = false := decide_eq_false c22
           clear c22
           by_cases c29 : x17_3 = t469
           ·rw [if_pos c29] at H
            have c29b0 : (x17_3 == t469) = true := beq_iff_eq.mpr c29
            have c29b1 : (x17_3 != t469) = false := bne_eq_false_iff_eq.mpr c29
            clear c29
            replace H := oB H
            obtain ⟨t479, A300, H⟩ := H
            replace H : (some t479) = some r := H
            have A30 := aM A300; clear A300
            obtain rfl := Option.some.inj H
            obtain ⟨Ao31, co31, eo31⟩ := Kd.R_slice HO_15.out
            subst eo31
            go_wp2_with (first | (go_at_call 16; (with_reducible refine (dynamometerlaw7_even.calls k3  t479 _ A30.out).mono ?_); rintro e w32 ⟨rfl, hb⟩; have n0_ := aM (Kd.R_below (by (with_reducible repeat (first | apply rA | apply rN | apply rD)); exact HO_15.out) hb); have n1_ := aM (bS (by repeat (first | (with_reducible first | exact HB.out | apply bA | apply pN | apply bD) | exact HB.out)) hb); clear HO_15 HB; have HO_15 := n0_; have HB := n1_; clear n0_ n1_; (try clear hb); (try clear hb2); (try clear hk); (try clear hi)))
            go_ret
            exact ⟨by first | rfl | (simp [errW_none, errW_some] <;> rfl) | (simp [*, errW_none, errW_some] <;> rfl), by repeat (first | (with_reducible first | exact HB.out | apply bA | apply pN | apply bD) | exact HB.out)⟩
           ·rw [if_neg c29] at H
            have c29b0 : (x17_3 == t469) = false := beq_eq_false_iff_ne.mpr c29
            have c29b1 : (x17_3 != t469) = true := bne_iff_ne.mpr c29
            obtain rfl := Option.some.inj H
            obtain ⟨Ao33, co33, eo33⟩ := Kd.R_slice HO_15.out
            subst eo33
            go_wp2
            go_ret
            exact ⟨by first | rfl | (simp [errW_none, errW_some] <;> rfl) | (simp [*, errW_none, errW_some] <;> rfl), by repeat (first | (with_reducible first | exact HB.out | apply bA | apply pN | apply bD) | exact HB.out)⟩
       ·rw [if_neg c20] at H
        have c20b0 : (t473 == 0) = false := beq_eq_false_iff_ne.mpr c20
        have c20b1 : (t473 != 0) = true := bne_iff_ne.mpr c20
        by_cases c34 : t473 = 3
        ·rw [if_pos c34] at H
         have c34b0 : (t473 == 3) = true := beq_iff_eq.mpr c34
         have c34b1 : (t473 != 3) = false := bne_eq_false_iff_eq.mpr c34
         clear c34
         replace H := oB H
         obtain ⟨t476, A350, H⟩ := H
         replace H : (some t476) = some r := H
         have A35 := aM A350; clear A350
         obtain rfl := Option.some.inj H
         go_wp2_with (first | ((with_reducible refine gC (f := 17) rfl ?_); refine gL (some 58) rfl rfl Try.func17 (by kernel_rfl) rfl #[.slice A0 l0.length c0] rfl (by (try simp only [mA, List.map_cons, List.map_nil]); first | done | rfl | (simp only [List.length_drop, List.length_take]; rfl)) ?_; (with_reducible refine (load_Even.calls kj15 _ _ l0 t472 t473 _ ?side1 ?side2 A19.out).mono ?_); (case side1 => repeat (first | exact (Kd.C_below HR0.out HB.out) | (with_reducible refine cA ?_ _) | (with_reducible refine cN ?_ _) | (with_reducible refine cD ?_))); (case side2 => exact HC0.out); rintro e w36 ⟨v474, rfl, ho0, hb⟩; refine ⟨_, rfl, ?_⟩; have n0_ := aM (Kd.R_lower ho0 (below_size (by repeat (first | (with_reducible first | exact HB.out | apply bA | apply pN | apply bD) | exact HB.out)))); have n1_ := aM (bS (by repeat (first | (with_reducible first | exact HB.out | apply bA | apply pN | apply bD) | exact HB.out)) hb); clear HB; have HO475 := n0_; have HB := n1_; clear n0_ n1_; (try clear hb); (try clear hb2); (try clear hk); (try clear hi); (try clear ho0)) | (go_at_call 16; (with_reducible refine (dynamometerlaw7_even.calls kj15  t476 _ A35.out).mono ?_); rintro e w37 ⟨rfl, hb⟩; have n0_ := aM (Kd.R_below (by (with_reducible repeat (first | apply rA | apply rN | apply rD)); exact HO475.out) hb); have n1_ := aM (bS (by repeat (first | (with_reducible first | exact HB.out | apply bA | apply pN | apply bD) | exact HB.out)) hb); clear HO475 HB; have HO475 := n0_; have HB := n1_; clear n0_ n1_; (try clear hb); (try clear hb2); (try clear hk); (try clear hi)))
         go_ret
         exact ⟨by first | rfl | (simp [errW_none, errW_some] <;> rfl) | (simp [*, errW_none, errW_some] <;> rfl), by repeat (first | (with_reducible first | exact HB.out | apply bA | apply pN | apply bD) | exact HB.out)⟩
        ·rw [if_neg c34] at H
         have c34b0 : (t473 == 3) = false := beq_eq_false_iff_ne.mpr c34
         have c34b1 : (t473 != 3) = true := bne_iff_ne.mpr c34
         obtain rfl := Option.some.inj H
         go_wp2_with (first | ((with_reducible refine gC (f := 17) rfl ?_); refine gL (some 58) rfl rfl Try.func17 (by kernel_rfl) rfl #[.slice A0 l0.length c0] rfl (by (try simp only [mA, List.map_cons, List.map_nil]); first | done | rfl | (simp only [List.length_drop, List.length_take]; rfl)) ?_; (with_reducible refine (load_Even.calls kj15 _ _ l0 t472 t473 _ ?side1 ?side2 A19.out).mono ?_); (case side1 => repeat (first | exact (Kd.C_below HR0.out HB.out) | (with_reducible refine cA ?_ _) | (with_reducible refine cN ?_ _) | (with_reducible refine cD ?_))); (case side2 => exact HC0.out); rintro e w38 ⟨v474, rfl, ho0, hb⟩; refine ⟨_, rfl, ?_⟩; have n0_ := aM (Kd.R_lower ho0 (below_size (by repeat (first | (with_reducible first | exact HB.out | apply bA | apply pN | apply bD) | exact HB.out)))); have n1_ := aM (bS (by repeat (first | (with_reducible first | exact HB.out | apply bA | apply pN | apply bD) | exact HB.out)) hb); clear HB; have HO475 := n0_; have HB := n1_; clear n0_ n1_; (try clear hb); (try clear hb2); (try clear hk); (try clear hi); (try clear ho0)))
         go_ret
         exact ⟨by first | rfl | (simp [errW_none, errW_some] <;> rfl) | (simp [*, errW_none, errW_some] <;> rfl), by repeat (first | (with_reducible first | exact HB.out | apply bA | apply pN | apply bD) | exact HB.out)⟩
end Go.Proofs.Ytjfldeoddjicoaa.QLoadCountAddsUp
