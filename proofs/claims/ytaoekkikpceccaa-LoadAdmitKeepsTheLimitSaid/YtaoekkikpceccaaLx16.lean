/- Lean functions that answer as Go functions of this seat do, each with its proof. Condition: the Lean function answers 'some'. -/
import Derived.Test.YtaoekkikpceccaaLx0
import Derived.Test.YtaoekkikpceccaaLx5
import Derived.Test.YtaoekkikpceccaaLx10
import Derived.Test.YtaoekkikpceccaaLx15
namespace Go.Proofs.Ytaoekkikpceccaa.QLoadAdmitKeepsTheLimit
open Go.RowKit Go.Proofs.YtaoekkikpceccaaW.PrintWords Go.Proofs.YtaoekkikpceccaaW.PrintLast Go.Proofs.YtaoekkikpceccaaW.PrintMore
attribute [local go_sem] max2_int min2_int max_two min_two
set_option linter.unusedVariables false
set_option maxHeartbeats 8000000
set_option maxRecDepth 100000
set_option linter.unusedSimpArgs false
def load_line_before.f (k : Nat) (l0 : List (S51)) (a1 : Int) : Option (Int) := if a1 = 0 then (some 0) else ((load_line_at.f k l0 (wrap64 (a1 - 1))).bind fun bt391 => ((nat_Shl.f k bt391.1 1).bind fun t398 => ((nat_Add.f k t398 bt391.2).bind fun t401 => ((nat_Shl.f k bt391.2 1).bind fun t404 => ((nat_DivMod.f k t401 t404).bind fun bt407 => ((nat_Nat_Int.f bt407.1).bind fun bt413 => (some bt413.1)))))))
theorem load_line_before.mono : ∀ a0 a1 k, LeO (load_line_before.f k a0 a1) (load_line_before.f (k + 1) a0 a1) := by
 intro a0 a1 k
 unfold load_line_before.f
 repeat' first
   | (with_reducible exact load_line_at.mono _ _ _)
   | (with_reducible exact nat_Add.mono _ _ _)
   | (with_reducible exact nat_DivMod.mono _ _ _)
   | (with_reducible exact nat_Shl.mono _ _ _)
   | (with_reducible exact LeO.refl _)
   | (with_reducible exact LeO.none _)
   | (with_reducible refine LeO.ite ?_ ?_)
   | (with_reducible refine LeO.bind ?_ (fun _ => ?_))
def load_line_before.T4 : Bool × List (List Nat × List Nat) := (true, [([], []), ([0], [0]), ([1], [1]), ([], []), ([3], [3]), ([2, 4, 2], [2, 4]), ([], []), ([6], [6]), ([7, 5], [7]), ([5, 8, 8], [5, 8]), ([9], [9]), ([10], [10]), ([10], [10]), ([11, 9, 0, 1, 2, 3, 4, 5, 6, 7, 8, 9, 10, 11], [11]), ([12, 13, 0, 1, 2, 3, 4, 5, 6, 7, 8, 9, 10, 11, 12, 13], [12])])
def load_line_before.B4 : List Nat := [0, 1, 3, 0, 8, 31, 0, 64, 255, 511, 1023, 2047, 2047, 4095, 16383]
theorem load_line_before.tab4 : rtab .any (opsOf Try.f17 4) = load_line_before.T4 := by kernel_rfl
theorem load_line_before.bits4 : waitsOk load_line_before.T4.2 load_line_before.B4 = true := by kernel_rfl
theorem load_line_before.calls (k : Nat) (A0 : Option Addr) (c0 : Nat) (l0 : List (S51)) (a1 : Int) (r : Int) (w : World) (hr0 : Kd.C k51 w A0 l0.length l0) (hc0 : l0.length ≤ c0) (h : load_line_before.f k l0 a1 = some r) :
  Calls Try.prog 17 #[.pointer A0, .int .i64 a1] w fun e w' => e = .returned (.int .i64 r) ∧ Below w.heap.size w w' := by
 have hu57 := Try.underlying57
 have HR0 := aM hr0
 have HC0 := aM hc0
 clear hr0 hc0
 have HB := aM (Below.refl w.heap.size w)
 have H : (if a1 = 0 then (some 0) else ((load_line_at.f k l0 (wrap64 (a1 - 1))).bind fun bt391 => ((nat_Shl.f k bt391.1 1).bind fun t398 => ((nat_Add.f k t398 bt391.2).bind fun t401 => ((nat_Shl.f k bt391.2 1).bind fun t404 => ((nat_DivMod.f k t401 t404).bind fun bt407 => ((nat_Nat_Int.f bt407.1).bind fun bt413 => (some bt413.1)))))))) = some r := h
 clear h
 by_cases c3 : a1 = 0
 ·rw [if_pos c3] at H
  have c3b0 : (a1 == 0) = true := beq_iff_eq.mpr c3
  have c3b1 : (a1 != 0) = false := bne_eq_false_iff_eq.mpr c3
  clear c3
  obtain rfl := Option.some.inj H
  go_enter Try.func17, Try.ntmps17
  go_wp2
  go_ret
  exact ⟨by first | rfl | (simp [errW_none, errW_some] <;> rfl) | (simp [*, errW_none, errW_some] <;> rfl), by apply_rules [HB.out, bA, pN, bD]⟩
 ·rw [if_neg c3] at H
  have c3b0 : (a1 == 0) = false := beq_eq_false_iff_ne.mpr c3
  have c3b1 : (a1 != 0) = true := bne_iff_ne.mpr c3
  replace H := oB H
  obtain ⟨⟨t391, t394⟩, A40, H⟩ := H
  replace H : ((nat_Shl.f k t391 1).bind fun t398 => ((nat_Add.f k t398 t394).bind fun t401 => ((nat_Shl.f k t394 1).bind fun t404 => ((nat_DivMod.f k t401 t404).bind fun bt407 => ((nat_Nat_Int.f bt407.1).bind fun bt413 => (some bt413.1)))))) = some r := H
  have A4 := aM A40; clear A40
  replace H := oB H
  obtain ⟨t398, A50, H⟩ := H
  replace H : ((nat_Add.f k t398 t394).bind fun t401 => ((nat_Shl.f k t394 1).bind fun t404 => ((nat_DivMod.f k t401 t404).bind fun bt407 => ((nat_Nat_Int.f bt407.1).bind fun bt413 => (some bt413.1))))) = some r := H
  have A5 := aM A50; clear A50
  replace H := oB H
  obtain ⟨t401, A60, H⟩ := H
  replace H : ((nat_Shl.f k t394 1).bind fun t404 => ((nat_DivMod.f k t401 t404).bind fun bt407 => ((nat_Nat_Int.f bt407.1).bind fun bt413 => (some bt413.1)))) = some r := H
  have A6 := aM A60; clear A60
  replace H := oB H
  obtain ⟨t404, A70, H⟩ := H
  replace H : ((nat_DivMod.f k t401 t404).bind fun bt407 => ((nat_Nat_Int.f bt407.1).bind fun bt413 => (some bt413.1))) = some r := H
  have A7 := aM A70; clear A70
  replace H := oB H
  obtain ⟨⟨t407, t410⟩, A80, H⟩ := H
  replace H : ((nat_Nat_Int.f t407).bind fun bt413 => (some bt413.1)) = some r := H
  have A8 := aM A80; clear A80
  replace H := oB H
  obtain ⟨⟨t413, t414⟩, A90, H⟩ := H
  replace H : (some t413) = some r := H
  have A9 := aM A90; clear A90
  obtain rfl := Option.some.inj H
  go_enter Try.func17, Try.ntmps17
  try go_wp2_with (first | ((with_reducible refine gC (f := 22) rfl ?_); refine gL (some 15) rfl rfl Try.func22 (by kernel_rfl) rfl #[.pointer A0, .int .i64 (wrap64 (a1 - 1))] rfl (by (try simp only [mA, mC, mN]); first | done | rfl | (simp only [lD, lT]; rfl)) ?_; (with_reducible refine (load_line_at.calls k _ c0 l0 (wrap64 (a1 - 1)) t391 t394 _ ?side1 ?side2 A4.out).mono ?_); (case side1 => repeat (first | exact HR0.out | (with_reducible refine cA ?_ _) | (with_reducible refine cN ?_ _) | (with_reducible refine cD ?_))); (case side2 => exact HC0.out); rintro e w10 ⟨v392, v395, rfl, ho0, ho1, hb⟩; refine ⟨_, rfl, ?_⟩; have n0_ := aM (Kd.R_lower ho0 (bZ (by apply_rules [HB.out, bA, pN, bD]))); have n1_ := aM (Kd.R_lower ho1 (bZ (by apply_rules [HB.out, bA, pN, bD]))); have n2_ := aM (bS (by apply_rules [HB.out, bA, pN, bD]) hb); clear HB; have HO393 := n0_; have HO396 := n1_; have HB := n2_; clear n0_ n1_ n2_; (try clear hb); (try clear hb2); (try clear hk); (try clear hi); (try clear ho0); (try clear ho1)) | ((with_reducible refine gate_dst (N := 5) rfl ?_); refine box_event ?hg (N := 5) ?hd (cs := #[.slice none 0 0, .slice none 0 0]) (t := 57) ?hr ?_; (case hd => rfl); (case hg => rfl); (case hr => first | (go_simp; done) | (go_simp; rfl)); intro gb397 hg w11 hbox hb; have n0_ := aM (rO (by apply_rules [HO393.out, rN, rD]) hb); have n1_ := aM (rO (by apply_rules [HO396.out, rN, rD]) hb); have n2_ := aM (bS (by apply_rules [HB.out, bA, pN, bD]) hb); have n3_ := aM (hbox); have n4_ := aM ((by rw [hg]; exact (bZ (by apply_rules [HB.out, bA, pN, bD])) : w.heap.size ≤ gb397)); have n5_ := aM ((by rw [hg]; exact (bZ (by apply_rules [HB.out, bA, pN, bD])) : w.heap.size ≤ gb397)); clear HO393 HO396 HB; have HO393 := n0_; have HO396 := n1_; have HB := n2_; have BK397 := n3_; have GW397 := n4_; have GE397 := n5_; clear n0_ n1_ n2_ n3_ n4_ n5_ hb hbox hg; obtain ⟨Ao12, co12, eo12⟩ := Kd.R_slice HO393.out; subst eo12; have hcz13_0 : w11.cell? ⟨gb397, 0, none⟩ = some (.slice none 0 0) := (kC BK397.out 0).trans rfl; have hcz13_1 : w11.cell? ⟨gb397, 1, none⟩ = some (.slice none 0 0) := (kC BK397.out 1).trans rfl; have hfz13_0 := blk_frozen BK397.out 0; have hfz13_1 := blk_frozen BK397.out 1; obtain ⟨Ao14, co14, eo14⟩ := Kd.R_slice HO396.out; subst eo14))
  have n0_ : Aside0 (Kd.R (Kd.int .u64) 65 ((w11.setCell ⟨gb397, 0, none⟩ (.slice Ao12 t391.length co12)).setCell ⟨gb397, 1, none⟩ (.slice Ao14 t394.length co14)) w.heap.size (fun k_ => some k_ ≠ (.slice Ao14 t394.length co14 : Value).ownBlock) (.slice Ao12 t391.length co12) t391) := ⟨by (with_reducible repeat (first | apply rN | apply rD)); exact Kd.R_mono (Kd.R_far (p := ⟨gb397, 1, none⟩) (Kd.R_far (p := ⟨gb397, 0, none⟩) (Kd.R_types HO393.out BK397.out (by decide)) (fun _ hk => hk.2) (.slice Ao12 t391.length co12)) (fun _ hk => hk.2) (.slice Ao14 t394.length co14)) (fun _ hk => hk.1)⟩
  have n1_ : Aside0 (Kd.R (Kd.int .u64) 65 ((w11.setCell ⟨gb397, 0, none⟩ (.slice Ao12 t391.length co12)).setCell ⟨gb397, 1, none⟩ (.slice Ao14 t394.length co14)) w.heap.size (fun k_ => some k_ ≠ (.slice Ao12 t391.length co12 : Value).ownBlock) (.slice Ao14 t394.length co14) t394) := ⟨by (with_reducible repeat (first | apply rN | apply rD)); exact Kd.R_mono (Kd.R_far (p := ⟨gb397, 1, none⟩) (Kd.R_far (p := ⟨gb397, 0, none⟩) (Kd.R_types HO396.out BK397.out (by decide)) (fun _ hk => hk.2) (.slice Ao12 t391.length co12)) (fun _ hk => hk.2) (.slice Ao14 t394.length co14)) (fun _ hk => hk.1)⟩
  have n2_ : Aside0 (((w11.setCell ⟨gb397, 0, none⟩ (.slice Ao12 t391.length co12)).setCell ⟨gb397, 1, none⟩ (.slice Ao14 t394.length co14)).heap[gb397]? = some (.cells #[.slice Ao12 t391.length co12, .slice Ao14 t394.length co14] 57 (0, 0))) := ⟨by (with_reducible repeat (first | refine kN ?_ _ | refine kD ?_ | refine kA ?_ _)); refine blk_put (cs := #[.slice Ao12 t391.length co12, .slice none 0 0]) ?_ 1 _ rfl; (with_reducible repeat (first | refine kN ?_ _ | refine kD ?_ | refine kA ?_ _)); refine blk_put (cs := #[.slice none 0 0, .slice none 0 0]) ?_ 0 _ rfl; (with_reducible repeat (first | refine kN ?_ _ | refine kD ?_ | refine kA ?_ _)); exact BK397.out⟩
  have n3_ : Aside0 (Below w.heap.size w ((w11.setCell ⟨gb397, 0, none⟩ (.slice Ao12 t391.length co12)).setCell ⟨gb397, 1, none⟩ (.slice Ao14 t394.length co14))) := ⟨by repeat (first | (with_reducible first | exact HB.out | apply bA | apply pN | apply bD | refine bE ?_ GE397.out) | exact HB.out)⟩
  (try clear HO393)
  (try clear HO396)
  (try clear BK397)
  (try clear HB)
  generalize ((w11.setCell ⟨gb397, 0, none⟩ (.slice Ao12 t391.length co12)).setCell ⟨gb397, 1, none⟩ (.slice Ao14 t394.length co14)) = w15 at n0_ n1_ n2_ n3_ ⊢
  have HO393 := n0_; have HO396 := n1_; have BK397 := n2_; have HB := n3_; clear n0_ n1_ n2_ n3_; have n0_ := aM (rD HO393.out); have n1_ := aM (rD HO396.out); have n2_ := aM (kD BK397.out); have n3_ := aM (bD HB.out); clear HO393 HO396 BK397 HB; have HO393 := n0_; have HO396 := n1_; have BK397 := n2_; have HB := n3_; clear n0_ n1_ n2_ n3_
  refine start_ (n := 15) (S := fun w' => w'.cell? ⟨gb397, 0, none⟩ = some (.slice Ao12 t391.length co12) ∧ w'.cell? ⟨gb397, 1, none⟩ = some (.slice Ao14 t394.length co14)) (ds := []) #[false, false, false, false, false, false, false, false, false, false, false, false, false, false, false] (by kernel_rfl) rfl rfl ⟨(kC BK397.out 0).trans rfl, (kC BK397.out 1).trans rfl⟩ (fun hHeld => ?_); refine with_tabW load_line_before.tab4 load_line_before.bits4 (fun HT_ HW_ => ?_)
  generalize w15.drew = w16 at HO393 HO396 BK397 HB hHeld ⊢
  refine pure_ (i := 0) (N := some 17) (v := ?_) (a' := ?_) #[true, false, false, false, false, false, false, false, false, false, false, false, false, false, false] rfl rfl (any_of HT_.out (by kernel_rfl)) (fun _ _ _ h => h) (Or.inl ⟨by rfl, ?_⟩) ?_ ?_
  rotate_left
  ·intro w'
   go_simp
   with_reducible rfl
  rotate_left
  ·simp only [Act.put, sI, sZ, sS, i64_w]
   rfl
  refine pure_ (i := 3) (N := some 20) (v := ?_) (a' := ?_) #[true, false, false, true, false, false, false, false, false, false, false, false, false, false, false] rfl rfl (any_of HT_.out (by kernel_rfl)) (fun _ _ _ h => h) (Or.inl ⟨by rfl, ?_⟩) ?_ ?_
  rotate_left
  ·intro w'
   go_simp
   with_reducible rfl
  rotate_left
  ·simp only [Act.put, sI, sZ, sS, i64_w]
   rfl
  refine pure_ (i := 6) (N := some 23) (v := ?_) (a' := ?_) #[true, false, false, true, false, false, true, false, false, false, false, false, false, false, false] rfl rfl (any_of HT_.out (by kernel_rfl)) (fun _ _ _ h => h) (Or.inl ⟨by rfl, ?_⟩) ?_ ?_
  rotate_left
  ·intro w'
   go_simp
   with_reducible rfl
  rotate_left
  ·simp only [Act.put, sI, sZ, sS, i64_w]
   rfl
  refine take_ (i := 1) (N := some 18) (v := ?_) (a' := ?_) #[true, true, false, true, false, false, true, false, false, false, false, false, false, false, false] rfl rfl (take_ofW HT_.out HW_.out (by kernel_rfl)) (fun _ _ _ h => h) (Or.inl ⟨by rfl, ?_⟩) hHeld ?_ ?_
  rotate_left
  ·rintro w' ⟨s0, s1⟩
   go_simp
   with_reducible rfl
  rotate_left
  ·simp only [Act.put, sI, sZ, sS, i64_w]
   rfl
  refine take_ (i := 4) (N := some 21) (v := ?_) (a' := ?_) #[true, true, false, true, true, false, true, false, false, false, false, false, false, false, false] rfl rfl (take_ofW HT_.out HW_.out (by kernel_rfl)) (fun _ _ _ h => h) (Or.inl ⟨by rfl, ?_⟩) hHeld ?_ ?_
  rotate_left
  ·rintro w' ⟨s0, s1⟩
   go_simp
   with_reducible rfl
  rotate_left
  ·simp only [Act.put, sI, sZ, sS, i64_w]
   rfl
  refine take_ (i := 7) (N := some 24) (v := ?_) (a' := ?_) #[true, true, false, true, true, false, true, true, false, false, false, false, false, false, false] rfl rfl (take_ofW HT_.out HW_.out (by kernel_rfl)) (fun _ _ _ h => h) (Or.inl ⟨by rfl, ?_⟩) hHeld ?_ ?_
  rotate_left
  ·rintro w' ⟨s0, s1⟩
   go_simp
   with_reducible rfl
  rotate_left
  ·simp only [Act.put, sI, sZ, sS, i64_w]
   rfl
  refine one_ (i := 2) (N := some 19) #[true, true, true, true, true, false, true, true, false, false, false, false, false, false, false] rfl rfl (one_of HT_.out (by kernel_rfl)) (by decide) (fun K hK => ?_)
  refine goes_ Try.func24 (by kernel_rfl) rfl #[.slice Ao12 t391.length co12, .int .i64 1] (by rfl) rfl rfl (by (try simp only [mA, mC, mN]); first | done | rfl | (simp only [lD, lT]; rfl)) ?_
  with_reducible refine (nat_Shl.calls k _ _ t391 1 t398 _ ?side1 ?side2 A5.out).mono ?_
  (case side1 => repeat (first | exact (rS HO393.out).2.2 | (with_reducible refine cA ?_ _) | (with_reducible refine cN ?_ _) | (with_reducible refine cD ?_)))
  (case side2 => exact (rS HO393.out).2.1)
  rintro e w17 ⟨v399, rfl, ho0, hb⟩
  refine ⟨_, rfl, ?_⟩
  have n0_ := aM (rE (by apply_rules [HO393.out, rN, rD]) (rB ho0) hb); have n1_ := aM (rE (by apply_rules [HO396.out, rN, rD]) (rB ho0) hb); have n2_ := aM (Kd.R_lower (rW (rW ho0 (rL (by apply_rules [HO393.out, rN, rD]))) (rL (by apply_rules [HO396.out, rN, rD]))) (bZ (by repeat (first | (with_reducible first | exact HB.out | apply bA | apply pN | apply bD | refine bE ?_ GE397.out) | exact HB.out)))); have n3_ := aM (blk_below (g := gb397) (o := .cells #[.slice Ao12 t391.length co12, .slice Ao14 t394.length co14] 57 (0, 0)) (by apply_rules [BK397.out, kN, kD, kA]) hb); have n4_ := aM (bS (by repeat (first | (with_reducible first | exact HB.out | apply bA | apply pN | apply bD | refine bE ?_ GE397.out) | exact HB.out)) hb); clear HO393 HO396 BK397 HB; have HO393 := n0_; have HO396 := n1_; have HO400 := n2_; have BK397 := n3_; have HB := n4_; clear n0_ n1_ n2_ n3_ n4_
  (try clear hb)
  (try clear hb2)
  (try clear hk)
  (try clear hi)
  (try clear ho0)
  obtain ⟨Ao18, co18, eo18⟩ := Kd.R_slice HO400.out
  (first | subst eo18 | (injection eo18 with f1_ f2_ f3_; have f4_ := f1_.symm; have f5_ := f3_.symm; clear f1_ f2_ f3_; subst f4_; subst f5_))
  refine hK.out _ _ ⟨(kC BK397.out 0).trans rfl, (kC BK397.out 1).trans rfl⟩ (fun hHeld => ?_)
  clear hK K
  refine norm_ (a' := ?_) ?_ ?_
  rotate_left
  ·show Act.put _ (some 19) _ = _
   simp only [Act.put, sI, sZ, sS, i64_w]
   rfl
  refine one_ (i := 5) (N := some 22) #[true, true, true, true, true, true, true, true, false, false, false, false, false, false, false] rfl rfl (one_of HT_.out (by kernel_rfl)) (by decide) (fun K hK => ?_)
  refine goes_ Try.func20 (by kernel_rfl) rfl #[.slice Ao18 t398.length co18, .slice Ao14 t394.length co14] (by rfl) rfl rfl (by (try simp only [mA, mC, mN]); first | done | rfl | (simp only [lD, lT]; rfl)) ?_
  with_reducible refine (nat_Add.calls k _ _ t398 _ _ t394 t401 _ ?side1 ?side2 ?side3 ?side4 A6.out).mono ?_
  (case side1 => repeat (first | exact (rS HO400.out).2.2 | (with_reducible refine cA ?_ _) | (with_reducible refine cN ?_ _) | (with_reducible refine cD ?_)))
  (case side2 => exact (rS HO400.out).2.1)
  (case side3 => repeat (first | exact (rS HO396.out).2.2 | (with_reducible refine cA ?_ _) | (with_reducible refine cN ?_ _) | (with_reducible refine cD ?_)))
  (case side4 => exact (rS HO396.out).2.1)
  rintro e w19 ⟨v402, rfl, ho0, hb⟩
  refine ⟨_, rfl, ?_⟩
  have n0_ := aM (rE (by apply_rules [HO393.out, rN, rD]) (rB ho0) hb); have n1_ := aM (rE (by apply_rules [HO396.out, rN, rD]) (rB ho0) hb); have n2_ := aM (rE (by apply_rules [HO400.out, rN, rD]) (rB ho0) hb); have n3_ := aM (Kd.R_lower (rW (rW (rW ho0 (rL (by apply_rules [HO393.out, rN, rD]))) (rL (by apply_rules [HO396.out, rN, rD]))) (rL (by apply_rules [HO400.out, rN, rD]))) (bZ (by repeat (first | (with_reducible first | exact HB.out | apply bA | apply pN | apply bD | refine bE ?_ GE397.out) | exact HB.out)))); have n4_ := aM (blk_below (g := gb397) (o := .cells #[.slice Ao12 t391.length co12, .slice Ao14 t394.length co14] 57 (0, 0)) (by apply_rules [BK397.out, kN, kD, kA]) hb); have n5_ := aM (bS (by repeat (first | (with_reducible first | exact HB.out | apply bA | apply pN | apply bD | refine bE ?_ GE397.out) | exact HB.out)) hb); clear HO393 HO396 HO400 BK397 HB; have HO393 := n0_; have HO396 := n1_; have HO400 := n2_; have HO403 := n3_; have BK397 := n4_; have HB := n5_; clear n0_ n1_ n2_ n3_ n4_ n5_
  (try clear hb)
  (try clear hb2)
  (try clear hk)
  (try clear hi)
  (try clear ho0)
  refine hK.out _ _ ⟨(kC BK397.out 0).trans rfl, (kC BK397.out 1).trans rfl⟩ (fun hHeld => ?_)
  clear hK K
  refine norm_ (a' := ?_) ?_ ?_
  rotate_left
  ·show Act.put _ (some 22) _ = _
   simp only [Act.put, sI, sZ, sS, i64_w]
   rfl
  refine one_ (i := 8) (N := some 25) #[true, true, true, true, true, true, true, true, true, false, false, false, false, false, false] rfl rfl (one_of HT_.out (by kernel_rfl)) (by decide) (fun K hK => ?_)
  refine goes_ Try.func24 (by kernel_rfl) rfl #[.slice Ao14 t394.length co14, .int .i64 1] (by rfl) rfl rfl (by (try simp only [mA, mC, mN]); first | done | rfl | (simp only [lD, lT]; rfl)) ?_
  with_reducible refine (nat_Shl.calls k _ _ t394 1 t404 _ ?side1 ?side2 A7.out).mono ?_
  (case side1 => repeat (first | exact (rS HO396.out).2.2 | (with_reducible refine cA ?_ _) | (with_reducible refine cN ?_ _) | (with_reducible refine cD ?_)))
  (case side2 => exact (rS HO396.out).2.1)
  rintro e w20 ⟨v405, rfl, ho0, hb⟩
  refine ⟨_, rfl, ?_⟩
  have n0_ := aM (rE (by apply_rules [HO393.out, rN, rD]) (rB ho0) hb); have n1_ := aM (rE (by apply_rules [HO396.out, rN, rD]) (rB ho0) hb); have n2_ := aM (rE (by apply_rules [HO400.out, rN, rD]) (rB ho0) hb); have n3_ := aM (rE (by apply_rules [HO403.out, rN, rD]) (rB ho0) hb); have n4_ := aM (Kd.R_lower (rW (rW (rW (rW ho0 (rL (by apply_rules [HO393.out, rN, rD]))) (rL (by apply_rules [HO396.out, rN, rD]))) (rL (by apply_rules [HO400.out, rN, rD]))) (rL (by apply_rules [HO403.out, rN, rD]))) (bZ (by repeat (first | (with_reducible first | exact HB.out | apply bA | apply pN | apply bD | refine bE ?_ GE397.out) | exact HB.out)))); have n5_ := aM (blk_below (g := gb397) (o := .cells #[.slice Ao12 t391.length co12, .slice Ao14 t394.length co14] 57 (0, 0)) (by apply_rules [BK397.out, kN, kD, kA]) hb); have n6_ := aM (bS (by repeat (first | (with_reducible first | exact HB.out | apply bA | apply pN | apply bD | refine bE ?_ GE397.out) | exact HB.out)) hb); clear HO393 HO396 HO400 HO403 BK397 HB; have HO393 := n0_; have HO396 := n1_; have HO400 := n2_; have HO403 := n3_; have HO406 := n4_; have BK397 := n5_; have HB := n6_; clear n0_ n1_ n2_ n3_ n4_ n5_ n6_
  (try clear hb)
  (try clear hb2)
  (try clear hk)
  (try clear hi)
  (try clear ho0)
  obtain ⟨Ao21, co21, eo21⟩ := Kd.R_slice HO403.out
  (first | subst eo21 | (injection eo21 with f1_ f2_ f3_; have f4_ := f1_.symm; have f5_ := f3_.symm; clear f1_ f2_ f3_; subst f4_; subst f5_))
  obtain ⟨Ao22, co22, eo22⟩ := Kd.R_slice HO406.out
  (first | subst eo22 | (injection eo22 with f1_ f2_ f3_; have f4_ := f1_.symm; have f5_ := f3_.symm; clear f1_ f2_ f3_; subst f4_; subst f5_))
  refine hK.out _ _ ⟨(kC BK397.out 0).trans rfl, (kC BK397.out 1).trans rfl⟩ (fun hHeld => ?_)
  clear hK K
  refine norm_ (a' := ?_) ?_ ?_
  rotate_left
  ·show Act.put _ (some 25) _ = _
   simp only [Act.put, sI, sZ, sS, i64_w]
   rfl
  refine one_ (i := 9) (N := some 26) #[true, true, true, true, true, true, true, true, true, true, false, false, false, false, false] rfl rfl (one_of HT_.out (by kernel_rfl)) (by decide) (fun K hK => ?_)
  refine goes_ Try.func23 (by kernel_rfl) rfl #[.slice Ao21 t401.length co21, .slice Ao22 t404.length co22] (by rfl) rfl rfl (by (try simp only [mA, mC, mN]); first | done | rfl | (simp only [lD, lT]; rfl)) ?_
  with_reducible refine (nat_DivMod.calls k (fun k_ => some k_ = (.slice Ao21 t401.length co21 : Value).ownBlock) _ _ t401 _ _ t404 t407 t410 _ ?side1 ?side2 ?side3 A8.out).mono ?_
  (case side1 => exact Kd.R_V (Kd.R_tight rfl (Kd.R_types (HO403.out) BK397.out (by decide))))
  (case side2 => repeat (first | exact (rS HO406.out).2.2 | (with_reducible refine cA ?_ _) | (with_reducible refine cN ?_ _) | (with_reducible refine cD ?_)))
  (case side3 => exact (rS HO406.out).2.1)
  rintro e w23 ⟨v408, v411, rfl, ho0, ho1, hb⟩
  refine ⟨_, rfl, ?_⟩
  have n0_ := aM (rE (by apply_rules [HO393.out, rN, rD]) (rB ho0) hb); have n1_ := aM (rE (by apply_rules [HO396.out, rN, rD]) (rB ho0) hb); have n2_ := aM (rE (by apply_rules [HO400.out, rN, rD]) (rB ho0) hb); have n3_ := aM (rE (by apply_rules [HO403.out, rN, rD]) (rB ho0) hb); have n4_ := aM (rE (by apply_rules [HO406.out, rN, rD]) (rB ho0) hb); have n5_ := aM (Kd.R_lower (rW (rW (rW (rW (rW (Kd.R_mono (ok' := fun k_ => True) ho0 (fun _ hk_ => trivial)) (rL (by apply_rules [HO393.out, rN, rD]))) (rL (by apply_rules [HO396.out, rN, rD]))) (rL (by apply_rules [HO400.out, rN, rD]))) (rL (by apply_rules [HO403.out, rN, rD]))) (rL (by apply_rules [HO406.out, rN, rD]))) (bZ (by repeat (first | (with_reducible first | exact HB.out | apply bA | apply pN | apply bD | refine bE ?_ GE397.out) | exact HB.out)))); have n6_ := aM (Kd.V_lower (Kd.V_mono (ok' := fun k_ => some k_ ≠ (v408 : Value).ownBlock ∧ some k_ ≠ (.slice Ao12 t391.length co12 : Value).ownBlock ∧ some k_ ≠ (.slice Ao14 t394.length co14 : Value).ownBlock ∧ some k_ ≠ (.slice Ao18 t398.length co18 : Value).ownBlock ∧ some k_ ≠ (.slice Ao22 t404.length co22 : Value).ownBlock ∧ k_ ≠ gb397) ho1 (fun k_ hk_ => ⟨hk_.2, Or.elim hk_.1 (fun hs_ => ((Kd.R_types (HO403.out) BK397.out (by decide)).1 k_ hs_.symm).1.1.1.1.2) (fun hn_ => (Kd.fresh' (rL (by apply_rules [HO393.out, rN, rD])) k_ hn_)), Or.elim hk_.1 (fun hs_ => ((Kd.R_types (HO403.out) BK397.out (by decide)).1 k_ hs_.symm).1.1.1.2) (fun hn_ => (Kd.fresh' (rL (by apply_rules [HO396.out, rN, rD])) k_ hn_)), Or.elim hk_.1 (fun hs_ => ((Kd.R_types (HO403.out) BK397.out (by decide)).1 k_ hs_.symm).1.1.2) (fun hn_ => (Kd.fresh' (rL (by apply_rules [HO400.out, rN, rD])) k_ hn_)), Or.elim hk_.1 (fun hs_ => ((Kd.R_types (HO403.out) BK397.out (by decide)).1 k_ hs_.symm).1.2) (fun hn_ => (Kd.fresh' (rL (by apply_rules [HO406.out, rN, rD])) k_ hn_)), Or.elim hk_.1 (fun hs_ => ((Kd.R_types (HO403.out) BK397.out (by decide)).1 k_ hs_.symm).2) (fun hn_ => (Kd.freshB (g := gb397) (o := .cells #[.slice Ao12 t391.length co12, .slice Ao14 t394.length co14] 57 (0, 0)) (by apply_rules [BK397.out, kN, kD, kA]) k_ hn_))⟩)) (bZ (by repeat (first | (with_reducible first | exact HB.out | apply bA | apply pN | apply bD | refine bE ?_ GE397.out) | exact HB.out)))); have n7_ := aM (blk_below (g := gb397) (o := .cells #[.slice Ao12 t391.length co12, .slice Ao14 t394.length co14] 57 (0, 0)) (by apply_rules [BK397.out, kN, kD, kA]) hb); have n8_ := aM (bS (by repeat (first | (with_reducible first | exact HB.out | apply bA | apply pN | apply bD | refine bE ?_ GE397.out) | exact HB.out)) hb); clear HO393 HO396 HO400 HO403 HO406 BK397 HB; have HO393 := n0_; have HO396 := n1_; have HO400 := n2_; have HO403 := n3_; have HO406 := n4_; have HO409 := n5_; have HO412 := n6_; have BK397 := n7_; have HB := n8_; clear n0_ n1_ n2_ n3_ n4_ n5_ n6_ n7_ n8_
  (try clear hb)
  (try clear hb2)
  (try clear hk)
  (try clear hi)
  (try clear ho0)
  (try clear ho1)
  refine hK.out _ _ ⟨(kC BK397.out 0).trans rfl, (kC BK397.out 1).trans rfl⟩ (fun hHeld => ?_)
  clear hK K
  refine norm_ (a' := ?_) ?_ ?_
  rotate_left
  ·show Act.put _ (some 26) _ = _
   simp only [Act.put, sI, sZ, sS, i64_w]
   rfl
  refine pure_ (i := 10) (N := some 16) (v := ?_) (a' := ?_) #[true, true, true, true, true, true, true, true, true, true, true, false, false, false, false] rfl rfl (any_of HT_.out (by kernel_rfl)) (fun _ _ _ h => h) (Or.inl ⟨by rfl, ?_⟩) ?_ ?_
  rotate_left
  ·intro w'
   go_simp
   with_reducible rfl
  rotate_left
  ·simp only [Act.put, sI, sZ, sS, i64_w]
   rfl
  refine pure_ (i := 11) (N := some 27) (v := ?_) (a' := ?_) #[true, true, true, true, true, true, true, true, true, true, true, true, false, false, false] rfl rfl (any_of HT_.out (by kernel_rfl)) (fun _ _ _ h => h) (Or.inl ⟨by rfl, ?_⟩) ?_ ?_
  rotate_left
  ·intro w'
   go_simp
   with_reducible rfl
  rotate_left
  ·simp only [Act.put, sI, sZ, sS, i64_w]
   rfl
  refine pure_ (i := 12) (N := some 28) (v := ?_) (a' := ?_) #[true, true, true, true, true, true, true, true, true, true, true, true, true, false, false] rfl rfl (any_of HT_.out (by kernel_rfl)) (fun _ _ _ h => h) (Or.inl ⟨by rfl, ?_⟩) ?_ ?_
  rotate_left
  ·intro w'
   go_simp
   with_reducible rfl
  rotate_left
  ·simp only [Act.put, sI, sZ, sS, i64_w]
   rfl
  refine pure_ (i := 13) (N := some 6) (v := ?_) (a' := ?_) #[true, true, true, true, true, true, true, true, true, true, true, true, true, true, false] rfl rfl (any_of HT_.out (by kernel_rfl)) (fun _ _ _ h => h) (Or.inl ⟨by rfl, ?_⟩) ?_ ?_
  rotate_left
  ·intro w'
   go_simp
   with_reducible rfl
  rotate_left
  ·simp only [Act.put, sI, sZ, sS, i64_w]
   rfl
  refine pure_ (i := 14) (N := some 7) (v := ?_) (a' := ?_) #[true, true, true, true, true, true, true, true, true, true, true, true, true, true, true] rfl rfl (any_of HT_.out (by kernel_rfl)) (fun _ _ _ h => h) (Or.inl ⟨by rfl, ?_⟩) ?_ ?_
  rotate_left
  ·intro w'
   go_simp
   with_reducible rfl
  rotate_left
  ·simp only [Act.put, sI, sZ, sS, i64_w]
   rfl
  refine done_ (done_of HT_.out (by kernel_rfl)) ?_
  obtain ⟨Ao24, co24, eo24⟩ := Kd.R_slice HO409.out
  subst eo24
  try go_wp2_with (first | ((with_reducible refine gC (f := 25) rfl ?_); refine gL (some 31) rfl rfl Try.func25 (by kernel_rfl) rfl #[.slice Ao24 t407.length co24] rfl (by (try simp only [mA, mC, mN]); first | done | rfl | (simp only [lD, lT]; rfl)) ?_; (with_reducible refine (nat_Nat_Int.calls _ _ t407 t413 t414 _ ?side1 ?side2 A9.out).mono ?_); (case side1 => repeat (first | exact (rS HO409.out).2.2 | (with_reducible refine cA ?_ _) | (with_reducible refine cN ?_ _) | (with_reducible refine cD ?_))); (case side2 => exact (rS HO409.out).2.1); rintro e w' ⟨rfl, ⟨nd, rfl⟩⟩; refine ⟨_, rfl, ?_⟩))
  go_ret
  exact ⟨by first | rfl | (simp [errW_none, errW_some] <;> rfl) | (simp [*, errW_none, errW_some] <;> rfl), by repeat (first | (with_reducible first | exact HB.out | apply bA | apply pN | apply bD | refine bE ?_ GE397.out) | exact HB.out)⟩
end Go.Proofs.Ytaoekkikpceccaa.QLoadAdmitKeepsTheLimit
