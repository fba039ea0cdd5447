/- Lean functions that answer as Go functions of this seat do, each with its proof. Condition: the Lean function answers 'some'. -/
import Derived.Test.YtaoekkikpceccaaLx0
import Derived.Test.YtaoekkikpceccaaLx5
import Derived.Test.YtaoekkikpceccaaLx6
import Derived.Test.YtaoekkikpceccaaLx9
import Derived.Test.YtaoekkikpceccaaLx10
namespace Go.Proofs.Ytaoekkikpceccaa.QLoadAdmitKeepsTheLimit
open Go.RowKit Go.Proofs.YtaoekkikpceccaaW.PrintWords Go.Proofs.YtaoekkikpceccaaW.PrintLast Go.Proofs.YtaoekkikpceccaaW.PrintMore
attribute [local go_sem] max2_int min2_int max_two min_two
set_option linter.unusedVariables false
set_option maxHeartbeats 8000000
set_option maxRecDepth 100000
set_option linter.unusedSimpArgs false
mutual
def load_line_first.j1 : Nat → List (S51) → Int → List Int → List Int → Option (Int × Bool)
 | 0, _, _, _, _ => none
 | k + 1, x0, x7, x416000, x416001 => if 0 < (x0.length : Int) then (if x7 = (((rd_T51 x0 0).f0).length : Int) then (some (0, false)) else (if 0 ≤ x7 then (if x7 < (((rd_T51 x0 0).f0).length : Int) then (load_line_first.l1 k x0 x7 0 ((rd_T40 ((rd_T51 x0 0).f0) x7).f0) x416000 x416001) else (none)) else (none))) else (none)
def load_line_first.l1 : Nat → List (S51) → Int → Int → Int → List Int → List Int → Option (Int × Bool)
 | 0, _, _, _, _, _, _ => none
 | k + 1, x0, x7, x8, x9, x416000, x416001 => if x8 < x9 then ((load_line_area.f k x0 x7 (wrap64 (Int.tdiv (wrap64 (x8 + x9)) 2))).bind fun bt434 => ((nat_Mul.f k bt434.1 x416001).bind fun t441 => ((nat_Mul.f k x416000 bt434.2).bind fun t444 => ((nat_Cmp.f k t441 t444).bind fun t447 => (if t447 ≥ 0 then (load_line_first.l1 k x0 x7 x8 (wrap64 (Int.tdiv (wrap64 (x8 + x9)) 2)) x416000 x416001) else (load_line_first.l1 k x0 x7 (wrap64 ((wrap64 (Int.tdiv (wrap64 (x8 + x9)) 2)) + 1)) x9 x416000 x416001)))))) else (if 0 < (x0.length : Int) then (if 0 ≤ x7 then (if x7 < (((rd_T51 x0 0).f1).length : Int) then (some (wrap64 ((rd ((rd_T51 x0 0).f1) x7) + x8), true)) else (none)) else (none)) else (none))
def load_line_first.l0 : Nat → List (S51) → List Int → Int → List Int → List Int → Option (Int × Bool)
 | 0, _, _, _, _, _ => none
 | k + 1, x0, x6, x7, x416000, x416001 => if 0 < (x0.length : Int) then (if x7 < (((rd_T51 x0 0).f0).length : Int) then (if 0 ≤ (wrap64 (x7 + 1)) then (if (wrap64 (x7 + 1)) < (((rd_T51 x0 0).f2).length : Int) then ((nat_Mul.f k (rd_L3 ((rd_T51 x0 0).f2) (wrap64 (x7 + 1))) x416001).bind fun t425 => ((nat_Cmp.f k t425 x6).bind fun t428 => (if t428 < 0 then (load_line_first.l0 k x0 x6 (wrap64 (x7 + 1)) x416000 x416001) else (load_line_first.j1 k x0 x7 x416000 x416001)))) else (none)) else (none)) else (load_line_first.j1 k x0 x7 x416000 x416001)) else (none)
end
def load_line_first.f (k : Nat) (l0 : List (S51)) (l1_0 : List Int) (l1_1 : List Int) : Option (Int × Bool) := (nat_Of.f 2000000000).bind fun t416 => ((nat_Mul.f k l1_0 t416).bind fun t419 => (load_line_first.l0 k l0 t419 0 l1_0 l1_1))
theorem load_line_first.mono_l : ∀ k, (∀ y0 y1 y2 y3, LeO (load_line_first.j1 k y0 y1 y2 y3) (load_line_first.j1 (k + 1) y0 y1 y2 y3)) ∧ (∀ y0 y1 y2 y3 y4 y5, LeO (load_line_first.l1 k y0 y1 y2 y3 y4 y5) (load_line_first.l1 (k + 1) y0 y1 y2 y3 y4 y5)) ∧ (∀ y0 y1 y2 y3 y4, LeO (load_line_first.l0 k y0 y1 y2 y3 y4) (load_line_first.l0 (k + 1) y0 y1 y2 y3 y4))
 | 0 => ⟨fun _ _ _ _ r h => by simp [load_line_first.j1] at h, fun _ _ _ _ _ _ r h => by simp [load_line_first.l1] at h, fun _ _ _ _ _ r h => by simp [load_line_first.l0] at h⟩
 | k + 1 => by
  obtain ⟨ih0, ih1, ih2⟩ := load_line_first.mono_l k
  refine ⟨?_, ?_, ?_⟩
  ·intro y0 y1 y2 y3
   unfold load_line_first.j1
   repeat' first
   | (with_reducible exact ih0 _ _ _ _)
   | (with_reducible exact ih1 _ _ _ _ _ _)
   | (with_reducible exact ih2 _ _ _ _ _)
   | (with_reducible exact load_line_area.mono _ _ _ _)
   | (with_reducible exact nat_Cmp.mono _ _ _)
   | (with_reducible exact nat_Mul.mono _ _ _)
   | (with_reducible exact LeO.refl _)
   | (with_reducible exact LeO.none _)
   | (with_reducible refine LeO.ite ?_ ?_)
   | (with_reducible refine LeO.bind ?_ (fun _ => ?_))
  ·intro y0 y1 y2 y3 y4 y5
   unfold load_line_first.l1
   repeat' first
   | (with_reducible exact ih0 _ _ _ _)
   | (with_reducible exact ih1 _ _ _ _ _ _)
   | (with_reducible exact ih2 _ _ _ _ _)
   | (with_reducible exact load_line_area.mono _ _ _ _)
   | (with_reducible exact nat_Cmp.mono _ _ _)
   | (with_reducible exact nat_Mul.mono _ _ _)
   | (with_reducible exact LeO.refl _)
   | (with_reducible exact LeO.none _)
   | (with_reducible refine LeO.ite ?_ ?_)
   | (with_reducible refine LeO.bind ?_ (fun _ => ?_))
  ·intro y0 y1 y2 y3 y4
   unfold load_line_first.l0
   repeat' first
   | (with_reducible exact ih0 _ _ _ _)
   | (with_reducible exact ih1 _ _ _ _ _ _)
   | (with_reducible exact ih2 _ _ _ _ _)
   | (with_reducible exact load_line_area.mono _ _ _ _)
   | (with_reducible exact nat_Cmp.mono _ _ _)
   | (with_reducible exact nat_Mul.mono _ _ _)
   | (with_reducible exact LeO.refl _)
   | (with_reducible exact LeO.none _)
   | (with_reducible refine LeO.ite ?_ ?_)
   | (with_reducible refine LeO.bind ?_ (fun _ => ?_))
theorem load_line_first.mono : ∀ a0 a1 a2 k, LeO (load_line_first.f k a0 a1 a2) (load_line_first.f (k + 1) a0 a1 a2) := by
 intro a0 a1 a2 k
 obtain ⟨ih0, ih1, ih2⟩ := load_line_first.mono_l k
 unfold load_line_first.f
 repeat' first
   | (with_reducible exact ih0 _ _ _ _)
   | (with_reducible exact ih1 _ _ _ _ _ _)
   | (with_reducible exact ih2 _ _ _ _ _)
   | (with_reducible exact load_line_area.mono _ _ _ _)
   | (with_reducible exact nat_Cmp.mono _ _ _)
   | (with_reducible exact nat_Mul.mono _ _ _)
   | (with_reducible exact LeO.refl _)
   | (with_reducible exact LeO.none _)
   | (with_reducible refine LeO.ite ?_ ?_)
   | (with_reducible refine LeO.bind ?_ (fun _ => ?_))
def load_line_first.T3 : Bool × List (List Nat × List Nat) := (true, [([], []), ([], []), ([1], [1]), ([2], [2]), ([3], [3]), ([4], [4]), ([0, 5], [0, 5]), ([6], [6]), ([7], [7]), ([8, 7], [7, 8]), ([9, 7], [7, 9]), ([10, 7], [7, 10]), ([7], [7]), ([12, 7], [7, 12]), ([11, 13, 7], [7, 11, 13]), ([14, 7], [7, 14]), ([7], [7]), ([16, 7], [7, 16]), ([15, 17, 7, 7], [7, 15, 17]), ([7], [7]), ([18, 19, 18, 7], [7, 18, 19]), ([20, 7], [7, 20]), ([7, 21], [7, 21])])
def load_line_first.B3 : List Nat := [0, 0, 2, 6, 14, 30, 63, 127, 255, 511, 1023, 2047, 255, 4351, 16383, 32767, 255, 65791, 262143, 255, 1048575, 2097151, 4194303]
theorem load_line_first.tab3 : rtab .any (opsOf Try.f26 3) = load_line_first.T3 := by kernel_rfl
theorem load_line_first.bits3 : waitsOk load_line_first.T3.2 load_line_first.B3 = true := by kernel_rfl
def load_line_first.T7 : Bool × List (List Nat × List Nat) := (true, [([], []), ([0], [0]), ([1], [1]), ([2], [2]), ([], []), ([3, 4], [3, 4]), ([5], [5]), ([6], [6]), ([], []), ([7, 8, 0, 1, 2, 3, 4, 5, 6, 7, 8], [7])])
def load_line_first.B7 : List Nat := [0, 1, 3, 7, 0, 31, 63, 127, 0, 511]
theorem load_line_first.tab7 : rtab .any (opsOf Try.f26 7) = load_line_first.T7 := by kernel_rfl
theorem load_line_first.bits7 : waitsOk load_line_first.T7.2 load_line_first.B7 = true := by kernel_rfl
def load_line_first.T11 : Bool × List (List Nat × List Nat) := (true, [([], []), ([0], [0]), ([], []), ([2], [2]), ([1, 3], [1, 3]), ([], []), ([5], [5]), ([], []), ([7], [7]), ([6, 8, 4], [6, 8]), ([4, 9, 9], [4, 9]), ([10], [10])])
def load_line_first.B11 : List Nat := [0, 1, 0, 4, 15, 0, 32, 0, 128, 511, 1023, 2047]
theorem load_line_first.tab11 : rtab .any (opsOf Try.f26 11) = load_line_first.T11 := by kernel_rfl
theorem load_line_first.bits11 : waitsOk load_line_first.T11.2 load_line_first.B11 = true := by kernel_rfl
theorem load_line_first.calls (k : Nat) (A0 : Option Addr) (c0 : Nat) (l0 : List (S51)) (A1_0 : Option Addr) (c1_0 : Nat) (l1_0 : List Int) (A1_1 : Option Addr) (c1_1 : Nat) (l1_1 : List Int) (r1 : Int) (r2 : Bool) (w : World) (hr0 : Kd.C k51 w A0 l0.length l0) (hc0 : l0.length ≤ c0) (hr1_0 : Kd.C (Kd.int .u64) w A1_0 l1_0.length l1_0) (hc1_0 : l1_0.length ≤ c1_0) (hr1_1 : Kd.C (Kd.int .u64) w A1_1 l1_1.length l1_1) (hc1_1 : l1_1.length ≤ c1_1) (h : load_line_first.f k l0 l1_0 l1_1 = some (r1, r2)) :
  Calls Try.prog 26 #[.pointer A0, .agg #[.slice A1_0 l1_0.length c1_0, .slice A1_1 l1_1.length c1_1]] w fun e w' => e = .returned (.tuple #[.int .i64 r1, .bool r2]) ∧ Below w.heap.size w w' := by
 have hu57 := Try.underlying57
 have HR0 := aM hr0
 have HC0 := aM hc0
 clear hr0 hc0
 have HR1_0 := aM hr1_0
 have HC1_0 := aM hc1_0
 clear hr1_0 hc1_0
 have HR1_1 := aM hr1_1
 have HC1_1 := aM hc1_1
 clear hr1_1 hc1_1
 have HB := aM (Below.refl w.heap.size w)
 have H : ((nat_Of.f 2000000000).bind fun t416 => ((nat_Mul.f k l1_0 t416).bind fun t419 => (load_line_first.l0 k l0 t419 0 l1_0 l1_1))) = some (r1, r2) := h
 clear h
 replace H := oB H
 obtain ⟨t416, A30, H⟩ := H
 replace H : ((nat_Mul.f k l1_0 t416).bind fun t419 => (load_line_first.l0 k l0 t419 0 l1_0 l1_1)) = some (r1, r2) := H
 have A3 := aM A30; clear A30
 replace H := oB H
 obtain ⟨t419, A40, H⟩ := H
 replace H : (load_line_first.l0 k l0 t419 0 l1_0 l1_1) = some (r1, r2) := H
 have A4 := aM A40; clear A40; have HC5 := aM H; clear H
 go_enter Try.func26, Try.ntmps26
 try go_wp2_with (first | ((with_reducible refine gate_dst (N := 3) rfl ?_); refine box_event ?hg (N := 3) ?hd (cs := #[.slice A1_0 l1_0.length c1_0, .slice A1_1 l1_1.length c1_1]) (t := 57) ?hr ?_; (case hd => rfl); (case hg => rfl); (case hr => first | (go_simp; done) | (go_simp; rfl)); intro gb415 hg w6 hbox hb; have n0_ := aM (bS (by apply_rules [HB.out, bA, pN, bD]) hb); have n1_ := aM (hbox); have n2_ := aM ((by rw [hg]; exact (bZ (by apply_rules [HB.out, bA, pN, bD])) : w.heap.size ≤ gb415)); have n3_ := aM ((by rw [hg]; exact (bZ (by apply_rules [HB.out, bA, pN, bD])) : w.heap.size ≤ gb415)); clear HB; have HB := n0_; have BK415 := n1_; have GW415 := n2_; have GE415 := n3_; clear n0_ n1_ n2_ n3_ hb hbox hg))
 have n0_ := aM (kD BK415.out); have n1_ := aM (bD HB.out); clear BK415 HB; have BK415 := n0_; have HB := n1_; clear n0_ n1_
 refine start_ (n := 5) (S := fun w' => w'.cell? ⟨gb415, 0, none⟩ = some (.slice A1_0 l1_0.length c1_0) ∧ w'.cell? ⟨gb415, 1, none⟩ = some (.slice A1_1 l1_1.length c1_1)) (ds := []) #[false, false, false, false, false] (by kernel_rfl) rfl rfl ⟨(kC BK415.out 0).trans rfl, (kC BK415.out 1).trans rfl⟩ (fun hHeld => ?_)
 generalize w6.drew = w7 at BK415 HB hHeld ⊢
 refine pure_ (i := 0) (N := some 12) (v := ?_) (a' := ?_) #[true, false, false, false, false] rfl rfl (by kernel_rfl) (fun _ _ _ h => h) (Or.inl ⟨by rfl, ?_⟩) ?_ ?_
 rotate_left
 ·intro w'
  go_simp
  with_reducible rfl
 rotate_left
 ·simp only [Act.put, sI, sZ, sS, i64_w]
  rfl
 refine take_ (i := 1) (N := some 13) (v := ?_) (a' := ?_) #[true, true, false, false, false] rfl rfl (by kernel_rfl) (fun _ _ _ h => h) (Or.inl ⟨by rfl, ?_⟩) hHeld ?_ ?_
 rotate_left
 ·rintro w' ⟨s0, s1⟩
  go_simp
  with_reducible rfl
 rotate_left
 ·simp only [Act.put, sI, sZ, sS, i64_w]
  rfl
 refine one_ (i := 2) (N := some 14) #[true, true, true, false, false] rfl rfl (by kernel_rfl) (by decide) (fun K hK => ?_)
 refine goes_ Try.func27 (by kernel_rfl) rfl #[.int .i64 2000000000] (by rfl) rfl rfl (by (try simp only [mA, mC, mN]); first | done | rfl | (simp only [lD, lT]; rfl)) ?_
 with_reducible refine (nat_Of.calls 2000000000 t416 _ A3.out).mono ?_
 rintro e w8 ⟨v417, rfl, ho0, hb⟩
 refine ⟨_, rfl, ?_⟩
 have n0_ := aM (Kd.R_lower ho0 (bZ (by repeat (first | (with_reducible first | exact HB.out | apply bA | apply pN | apply bD | refine bE ?_ GE415.out) | exact HB.out)))); have n1_ := aM (blk_below (g := gb415) (o := .cells #[.slice A1_0 l1_0.length c1_0, .slice A1_1 l1_1.length c1_1] 57 (0, 0)) (by apply_rules [BK415.out, kN, kD, kA]) hb); have n2_ := aM (bS (by repeat (first | (with_reducible first | exact HB.out | apply bA | apply pN | apply bD | refine bE ?_ GE415.out) | exact HB.out)) hb); clear BK415 HB; have HO418 := n0_; have BK415 := n1_; have HB := n2_; clear n0_ n1_ n2_
 (try clear hb)
 (try clear hb2)
 (try clear hk)
 (try clear hi)
 (try clear ho0)
 obtain ⟨Ao9, co9, eo9⟩ := Kd.R_slice HO418.out
 (first | subst eo9 | (injection eo9 with f1_ f2_ f3_; have f4_ := f1_.symm; have f5_ := f3_.symm; clear f1_ f2_ f3_; subst f4_; subst f5_))
 refine hK.out _ _ ⟨(kC BK415.out 0).trans rfl, (kC BK415.out 1).trans rfl⟩ (fun hHeld => ?_)
 clear hK K
 refine norm_ (a' := ?_) ?_ ?_
 rotate_left
 ·show Act.put _ (some 14) _ = _
  simp only [Act.put, sI, sZ, sS, i64_w]
  rfl
 refine one_ (i := 3) (N := some 15) #[true, true, true, true, false] rfl rfl (by kernel_rfl) (by decide) (fun K hK => ?_)
 refine goes_ Try.func30 (by kernel_rfl) rfl #[.slice A1_0 l1_0.length c1_0, .slice Ao9 t416.length co9] (by rfl) rfl rfl (by (try simp only [mA, mC, mN]); first | done | rfl | (simp only [lD, lT]; rfl)) ?_
 with_reducible refine (nat_Mul.calls k _ _ l1_0 _ _ t416 t419 _ ?side1 ?side2 ?side3 ?side4 A4.out).mono ?_
 (case side1 => repeat (first | exact (Kd.C_below HR1_0.out HB.out) | (with_reducible refine cA ?_ _) | (with_reducible refine cN ?_ _) | (with_reducible refine cD ?_)))
 (case side2 => exact HC1_0.out)
 (case side3 => repeat (first | exact (rS HO418.out).2.2 | (with_reducible refine cA ?_ _) | (with_reducible refine cN ?_ _) | (with_reducible refine cD ?_)))
 (case side4 => exact (rS HO418.out).2.1)
 rintro e w10 ⟨v420, rfl, ho0, hb⟩
 refine ⟨_, rfl, ?_⟩
 have n0_ := aM (rE (by apply_rules [HO418.out, rN, rD]) (rB ho0) hb); have n1_ := aM (Kd.R_lower (rW ho0 (rL (by apply_rules [HO418.out, rN, rD]))) (bZ (by repeat (first | (with_reducible first | exact HB.out | apply bA | apply pN | apply bD | refine bE ?_ GE415.out) | exact HB.out)))); have n2_ := aM (blk_below (g := gb415) (o := .cells #[.slice A1_0 l1_0.length c1_0, .slice A1_1 l1_1.length c1_1] 57 (0, 0)) (by apply_rules [BK415.out, kN, kD, kA]) hb); have n3_ := aM (bS (by repeat (first | (with_reducible first | exact HB.out | apply bA | apply pN | apply bD | refine bE ?_ GE415.out) | exact HB.out)) hb); clear HO418 BK415 HB; have HO418 := n0_; have HO421 := n1_; have BK415 := n2_; have HB := n3_; clear n0_ n1_ n2_ n3_
 (try clear hb)
 (try clear hb2)
 (try clear hk)
 (try clear hi)
 (try clear ho0)
 refine hK.out _ _ ⟨(kC BK415.out 0).trans rfl, (kC BK415.out 1).trans rfl⟩ (fun hHeld => ?_)
 clear hK K
 refine norm_ (a' := ?_) ?_ ?_
 rotate_left
 ·show Act.put _ (some 15) _ = _
  simp only [Act.put, sI, sZ, sS, i64_w]
  rfl
 refine pure_ (i := 4) (N := some 6) (v := ?_) (a' := ?_) #[true, true, true, true, true] rfl rfl (by kernel_rfl) (fun _ _ _ h => h) (Or.inl ⟨by rfl, ?_⟩) ?_ ?_
 rotate_left
 ·intro w'
  go_simp
  with_reducible rfl
 rotate_left
 ·simp only [Act.put, sI, sZ, sS, i64_w]
  rfl
 refine done_ (by kernel_rfl) ?_
 go_upto_block 0 with (fail)
 go_cut [7] (fun v7 wc => ∃ (kq : Nat) (x7_4 : Int), v7 = .int .i64 x7_4 ∧ Aside0 (load_line_first.j1 kq l0 x7_4 l1_0 l1_1 = some (r1, r2)) ∧ Aside0 (kq ≤ k) ∧ Aside0 (wc.heap[gb415]? = some (.cells #[(.slice A1_0 l1_0.length c1_0), (.slice A1_1 l1_1.length c1_1)] 57 (0, 0))) ∧ Aside0 (Below w.heap.size w wc))
 case first =>
  have H := HC5.out
  clear HC5; have H' := aM H; clear H
  go_wp2
  go_loopg [7] k (fun kq v7 w' => ∃ (x7_1 : Int), v7 = .int .i64 x7_1 ∧ Aside0 (load_line_first.l0 kq l0 t419 x7_1 l1_0 l1_1 = some (r1, r2)) ∧ Aside0 (kq ≤ k) ∧ Aside0 (Kd.R (Kd.int .u64) 65 w' w.heap.size (fun _ => True) v420 t419) ∧ Aside0 (w'.heap[gb415]? = some (.cells #[(.slice A1_0 l1_0.length c1_0), (.slice A1_1 l1_1.length c1_1)] 57 (0, 0))) ∧ Aside0 (Below w.heap.size w w'))
  case atStart => exact ⟨(0), (by first | rfl | (simp; done) | (simp [*]; done)), H', ⟨Nat.le_refl _⟩, ⟨by (with_reducible repeat (first | apply rN | apply rD)); exact Kd.R_mono HO421.out (fun _ hk => trivial)⟩, ⟨by (with_reducible repeat (first | refine kN ?_ _ | refine kD ?_ | refine kA ?_ _)); exact BK415.out⟩, ⟨by repeat (first | (with_reducible first | exact HB.out | apply bA | apply pN | apply bD | refine bE ?_ GE415.out) | exact HB.out)⟩⟩
  case round =>
   clear H'
   try clear c1
   try clear c2
   try clear p2
   try clear c3
   obtain ⟨x7_1, rfl, HA, HK1, HO_6, BK415, HB⟩ := hrel
   cases gk with
   | zero => exact absurd HA.out (by simp [load_line_first.l0])
   | succ k1 =>
    have H := HA.out
    clear HA
    simp only [load_line_first.l0] at H
    by_cases c11 : 0 < (l0.length : Int)
    rotate_left
    ·rw [if_neg c11] at H; cases H
    rw [if_pos c11] at H
    have c11b0 : decide (0 < (l0.length : Int)) = true := dT c11
    have c11b1 : decide (0 < l0.length) = true := dT (by omega)
    clear c11
    (first | rw [c11b0] | (simp only [i64_w, i32_w]; rw [c11b0]) | skip)
    by_cases c12 : x7_1 < (((rd_T51 l0 0).f0).length : Int)
    ·rw [if_pos c12] at H
     have c12b0 : decide (x7_1 < (((rd_T51 l0 0).f0).length : Int)) = true := dT c12
     clear c12
     obtain ⟨ji13, hji13⟩ : ∃ j_ : Int, (wrap64 (x7_1 + 1)) = j_ := ⟨_, rfl⟩
     replace H : (if 0 ≤ (ji13) then (if (ji13) < (((rd_T51 l0 0).f2).length : Int) then ((nat_Mul.f k1 (rd_L3 ((rd_T51 l0 0).f2) (ji13)) l1_1).bind fun t425 => ((nat_Cmp.f k1 t425 t419).bind fun t428 => (if t428 < 0 then (load_line_first.l0 k1 l0 t419 ji13 l1_0 l1_1) else (load_line_first.j1 k1 l0 x7_1 l1_0 l1_1)))) else (none)) else (none)) = some (r1, r2) := by first | (rw [hji13] at H; exact H) | (simp only [hji13] at H ⊢; exact H)
     have hji13w : (IntKind.i64.wrap (x7_1 + 1)) = ji13 := (i64_w _).trans hji13
     by_cases c14 : 0 ≤ (ji13)
     rotate_left
     ·rw [if_neg c14] at H; cases H
     rw [if_pos c14] at H
     have c14b0 : decide (0 ≤ (ji13)) = true := dT c14
     clear c14
     by_cases c15 : (ji13) < (((rd_T51 l0 0).f2).length : Int)
     rotate_left
     ·rw [if_neg c15] at H; cases H
     rw [if_pos c15] at H
     have c15b0 : decide ((ji13) < (((rd_T51 l0 0).f2).length : Int)) = true := dT c15
     clear c15
     replace H := oB H
     obtain ⟨t425, A160, H⟩ := H
     replace H : ((nat_Cmp.f k1 t425 t419).bind fun t428 => (if t428 < 0 then (load_line_first.l0 k1 l0 t419 ji13 l1_0 l1_1) else (load_line_first.j1 k1 l0 x7_1 l1_0 l1_1))) = some (r1, r2) := H
     have A16 := aM A160; clear A160
     replace H := oB H
     obtain ⟨t428, A170, H⟩ := H
     replace H : (if t428 < 0 then (load_line_first.l0 k1 l0 t419 ji13 l1_0 l1_1) else (load_line_first.j1 k1 l0 x7_1 l1_0 l1_1)) = some (r1, r2) := H
     have A17 := aM A170; clear A170
     by_cases c18 : t428 < 0
     ·rw [if_pos c18] at H
      have c18b0 : decide (t428 < 0) = true := dT c18
      clear c18; have H' := aM H; clear H
      try go_wp2
      have n0_ := aM (rD HO_6.out); have n1_ := aM (kD BK415.out); have n2_ := aM (bD HB.out); clear HO_6 BK415 HB; have HO_6 := n0_; have BK415 := n1_; have HB := n2_; clear n0_ n1_ n2_
      have p422 : 0 ≤ (0 : Int) := (by omega)
      have q422 : 0 < (l0.length : Int) := oD (by first | (with_reducible assumption) | assumption)
      obtain ⟨ad422, A422_0, c422_0, A422_1, c422_1, A422_2, c422_2, e422, hx422_0, hx422_1, hx422_2, hl422_0, hi422_0, hl422_1, hi422_1, hl422_2, hi422_2⟩ := at_T51 HR0.out 0 p422 q422
      have hw422_2 := hx422_2
      (try rw [show ((0 : Int)).toNat = 0 from rfl] at hw422_2)
      (try rw [show 0 * 3 = 0 from rfl] at hw422_2)
      (try rw [Addr.add_zero'] at hw422_2)
      have hw422_1 := hx422_1
      (try rw [show ((0 : Int)).toNat = 0 from rfl] at hw422_1)
      (try rw [show 0 * 3 = 0 from rfl] at hw422_1)
      (try rw [Addr.add_zero'] at hw422_1)
      have hw422_0 := hx422_0
      (try rw [show ((0 : Int)).toNat = 0 from rfl] at hw422_0)
      (try rw [show 0 * 3 = 0 from rfl] at hw422_0)
      (try rw [Addr.add_zero'] at hw422_0)
      have hv422_0 := hx422_0
      have hv422_1 := hx422_1
      have hv422_2 := hx422_2
      cases e422
      have qi422 : (0 < l0.length) = True := eq_true (by omega)
      (try rw [show ((0 : Int)).toNat = 0 from rfl] at hx422_0)
      (try rw [show 0 * 3 = 0 from rfl] at hx422_0)
      (try rw [Addr.add_zero'] at hx422_0)
      (try rw [show ((0 : Int)).toNat = 0 from rfl] at hx422_1)
      (try rw [show 0 * 3 = 0 from rfl] at hx422_1)
      (try rw [Addr.add_zero'] at hx422_1)
      (try rw [show ((0 : Int)).toNat = 0 from rfl] at hx422_2)
      (try rw [show 0 * 3 = 0 from rfl] at hx422_2)
      (try rw [Addr.add_zero'] at hx422_2)
      replace hx422_0 := (HB.out.cell (wL w _ hx422_0)).trans hx422_0
      replace hx422_1 := (HB.out.cell (wL w _ hx422_1)).trans hx422_1
      replace hx422_2 := (HB.out.cell (wL w _ hx422_2)).trans hx422_2
      have HR422_0 := aM hi422_0
      have HC422_0 := aM hl422_0
      clear hi422_0 hl422_0
      have HR422_1 := aM hi422_1
      have HC422_1 := aM hl422_1
      clear hi422_1 hl422_1
      have HR422_2 := aM hi422_2
      have HC422_2 := aM hl422_2
      clear hi422_2 hl422_2
      replace p422 := eq_true p422
      replace q422 := eq_true q422
      have p423 : 0 ≤ (0 : Int) := (by omega)
      have q423 : 0 < (l0.length : Int) := oD (by first | (with_reducible assumption) | assumption)
      obtain ⟨ad423, A423_0, c423_0, A423_1, c423_1, A423_2, c423_2, e423, hx423_0, hx423_1, hx423_2, hl423_0, hi423_0, hl423_1, hi423_1, hl423_2, hi423_2⟩ := at_T51 HR0.out 0 p423 q423
      have hw423_2 := hx423_2
      (try rw [show ((0 : Int)).toNat = 0 from rfl] at hw423_2)
      (try rw [show 0 * 3 = 0 from rfl] at hw423_2)
      (try rw [Addr.add_zero'] at hw423_2)
      have hw423_1 := hx423_1
      (try rw [show ((0 : Int)).toNat = 0 from rfl] at hw423_1)
      (try rw [show 0 * 3 = 0 from rfl] at hw423_1)
      (try rw [Addr.add_zero'] at hw423_1)
      have hw423_0 := hx423_0
      (try rw [show ((0 : Int)).toNat = 0 from rfl] at hw423_0)
      (try rw [show 0 * 3 = 0 from rfl] at hw423_0)
      (try rw [Addr.add_zero'] at hw423_0)
      have hv423_0 := hx423_0
      have hv423_1 := hx423_1
      have hv423_2 := hx423_2
      obtain rfl : ad422 = ad423 := (by injection e423)
      have qi423 : (0 < l0.length) = True := eq_true (by omega)
      (try rw [show ((0 : Int)).toNat = 0 from rfl] at hx423_0)
      (try rw [show 0 * 3 = 0 from rfl] at hx423_0)
      (try rw [Addr.add_zero'] at hx423_0)
      (try rw [show ((0 : Int)).toNat = 0 from rfl] at hx423_1)
      (try rw [show 0 * 3 = 0 from rfl] at hx423_1)
      (try rw [Addr.add_zero'] at hx423_1)
      (try rw [show ((0 : Int)).toNat = 0 from rfl] at hx423_2)
      (try rw [show 0 * 3 = 0 from rfl] at hx423_2)
      (try rw [Addr.add_zero'] at hx423_2)
      replace hx423_0 := (HB.out.cell (wL w _ hx423_0)).trans hx423_0
      replace hx423_1 := (HB.out.cell (wL w _ hx423_1)).trans hx423_1
      replace hx423_2 := (HB.out.cell (wL w _ hx423_2)).trans hx423_2
      have HR423_0 := aM hi423_0
      have HC423_0 := aM hl423_0
      clear hi423_0 hl423_0
      have HR423_1 := aM hi423_1
      have HC423_1 := aM hl423_1
      clear hi423_1 hl423_1
      have HR423_2 := aM hi423_2
      have HC423_2 := aM hl423_2
      clear hi423_2 hl423_2
      replace p423 := eq_true p423
      replace q423 := eq_true q423
      have ea_ := Option.some.inj (hv422_0.symm.trans hv423_0)
      injection ea_ with ea_ en_ ec_
      subst ea_
      subst ec_
      clear en_
      have ea_ := Option.some.inj (hv422_1.symm.trans hv423_1)
      injection ea_ with ea_ en_ ec_
      subst ea_
      subst ec_
      clear en_
      have ea_ := Option.some.inj (hv422_2.symm.trans hv423_2)
      injection ea_ with ea_ en_ ec_
      subst ea_
      subst ec_
      clear en_
      have p424 : 0 ≤ ((ji13) : Int) := oD (by first | (with_reducible assumption) | assumption)
      have q424 : (ji13) < (((rd_T51 l0 0).f2).length : Int) := oD (by first | (with_reducible assumption) | assumption)
      obtain ⟨ad424, A424_0, c424_0, e424, hx424_0, hl424_0, hi424_0⟩ := at_L3 HR423_2.out (ji13) p424 q424
      have hw424_0 := hx424_0
      have hv424_0 := hx424_0
      cases e424
      replace hx424_0 := (HB.out.cell (wL w _ hx424_0)).trans hx424_0
      have HR424_0 := aM hi424_0
      have HC424_0 := aM hl424_0
      clear hi424_0 hl424_0
      replace p424 := eq_true p424
      replace q424 := eq_true q424
      refine start_ (n := 23) (S := fun w' => w'.cell? ⟨gb415, 0, none⟩ = some (.slice A1_0 l1_0.length c1_0) ∧ w'.cell? ⟨gb415, 1, none⟩ = some (.slice A1_1 l1_1.length c1_1) ∧ w'.cell? ad422 = some (.slice A422_0 ((rd_T51 l0 0).f0).length c422_0) ∧ w'.cell? ⟨ad422.block, ad422.off + 1, none⟩ = some (.slice A422_1 ((rd_T51 l0 0).f1).length c422_1) ∧ w'.cell? ⟨ad422.block, ad422.off + 2, none⟩ = some (.slice (some ad424) ((rd_T51 l0 0).f2).length c422_2) ∧ w'.cell? ad422 = some (.slice A422_0 ((rd_T51 l0 0).f0).length c422_0) ∧ w'.cell? ⟨ad422.block, ad422.off + 1, none⟩ = some (.slice A422_1 ((rd_T51 l0 0).f1).length c422_1) ∧ w'.cell? ⟨ad422.block, ad422.off + 2, none⟩ = some (.slice (some ad424) ((rd_T51 l0 0).f2).length c422_2) ∧ w'.cell? (ad424.add ((ji13)).toNat) = some (.slice A424_0 (rd_L3 ((rd_T51 l0 0).f2) (ji13)).length c424_0)) (ds := []) #[false, false, false, false, false, false, false, false, false, false, false, false, false, false, false, false, false, false, false, false, false, false, false] (by kernel_rfl) rfl rfl ⟨(kC BK415.out 0).trans rfl, (kC BK415.out 1).trans rfl, ((HB.out.cell (wL w _ hw422_0)).trans hw422_0), ((HB.out.cell (wL w _ hw422_1)).trans hw422_1), ((HB.out.cell (wL w _ hw422_2)).trans hw422_2), ((HB.out.cell (wL w _ hw423_0)).trans hw423_0), ((HB.out.cell (wL w _ hw423_1)).trans hw423_1), ((HB.out.cell (wL w _ hw423_2)).trans hw423_2), ((HB.out.cell (wL w _ hw424_0)).trans hw424_0)⟩ (fun hHeld => ?_); refine with_tabW load_line_first.tab3 load_line_first.bits3 (fun HT_ HW_ => ?_)
      generalize wr.drew = w19 at HO_6 BK415 HB HR422_0 HR422_1 HR422_2 HR423_0 HR423_1 HR423_2 HR424_0 hx422_0 hx422_1 hx422_2 hx423_0 hx423_1 hx423_2 hx424_0 hHeld ⊢
      refine pure_ (i := 0) (N := some 16) (v := ?_) (a' := ?_) #[true, false, false, false, false, false, false, false, false, false, false, false, false, false, false, false, false, false, false, false, false, false, false] rfl rfl (any_of HT_.out (by kernel_rfl)) (fun _ _ _ h => h) (Or.inl ⟨by rfl, ?_⟩) ?_ ?_
      rotate_left
      ·intro w'
       go_simp
       with_reducible rfl
      rotate_left
      ·simp only [Act.put, sI, sZ, sS, i64_w]
       rfl
      refine pure_ (i := 1) (N := some 17) (v := ?_) (a' := ?_) #[true, true, false, false, false, false, false, false, false, false, false, false, false, false, false, false, false, false, false, false, false, false, false] rfl rfl (any_of HT_.out (by kernel_rfl)) (fun _ _ _ h => h) (Or.inl ⟨by rfl, ?_⟩) ?_ ?_
      rotate_left
      ·intro w'
       go_simp
       with_reducible rfl
      rotate_left
      ·simp only [Act.put, sI, sZ, sS, i64_w]
       rfl
      refine pure_ (i := 2) (N := some 18) (v := ?_) (a' := ?_) #[true, true, true, false, false, false, false, false, false, false, false, false, false, false, false, false, false, false, false, false, false, false, false] rfl rfl (any_of HT_.out (by kernel_rfl)) (fun _ _ _ h => h) (Or.inl ⟨by rfl, ?_⟩) ?_ ?_
      rotate_left
      ·intro w'
       go_simp
       with_reducible rfl
      rotate_left
      ·simp only [Act.put, sI, sZ, sS, i64_w]
       rfl
      refine pure_ (i := 3) (N := some 19) (v := ?_) (a' := ?_) #[true, true, true, true, false, false, false, false, false, false, false, false, false, false, false, false, false, false, false, false, false, false, false] rfl rfl (any_of HT_.out (by kernel_rfl)) (fun _ _ _ h => h) (Or.inl ⟨by rfl, ?_⟩) ?_ ?_
      rotate_left
      ·intro w'
       go_simp
       with_reducible rfl
      rotate_left
      ·simp only [Act.put, sI, sZ, sS, i64_w]
       rfl
      refine take_ (i := 4) (N := some 20) (v := ?_) (a' := ?_) #[true, true, true, true, true, false, false, false, false, false, false, false, false, false, false, false, false, false, false, false, false, false, false] rfl rfl (take_ofW HT_.out HW_.out (by kernel_rfl)) (fun _ _ _ h => h) (Or.inl ⟨by rfl, ?_⟩) hHeld ?_ ?_
      rotate_left
      ·rintro w' ⟨s0, s1, s2, s3, s4, s5, s6, s7, s8⟩
       go_simp
       with_reducible rfl
      rotate_left
      ·simp only [Act.put, sI, sZ, sS, i64_w]
       rfl
      refine pure_ (i := 5) (N := some 21) (v := ?_) (a' := ?_) #[true, true, true, true, true, true, false, false, false, false, false, false, false, false, false, false, false, false, false, false, false, false, false] rfl rfl (any_of HT_.out (by kernel_rfl)) (fun _ _ _ h => h) (Or.inl ⟨by rfl, ?_⟩) ?_ ?_
      rotate_left
      ·intro w'
       go_simp
       with_reducible rfl
      rotate_left
      ·simp only [Act.put, sI, sZ, sS, i64_w]
       rfl
      refine pure_ (i := 6) (N := some 22) (v := ?_) (a' := ?_) #[true, true, true, true, true, true, true, false, false, false, false, false, false, false, false, false, false, false, false, false, false, false, false] rfl rfl (any_of HT_.out (by kernel_rfl)) (fun _ _ _ h => h) (Or.inl ⟨by rfl, ?_⟩) ?_ ?_
      rotate_left
      ·intro w'
       go_simp
       with_reducible rfl
      rotate_left
      ·simp only [Act.put, sI, sZ, sS, i64_w]
       rfl
      refine pure_ (i := 7) (N := some 23) (v := ?_) (a' := ?_) #[true, true, true, true, true, true, true, true, false, false, false, false, false, false, false, false, false, false, false, false, false, false, false] rfl rfl (any_of HT_.out (by kernel_rfl)) (fun _ _ _ h => h) (Or.inl ⟨by rfl, ?_⟩) ?_ ?_
      rotate_left
      ·intro w'
       go_simp
       with_reducible rfl
      rotate_left
      ·simp only [Act.put, sI, sZ, sS, i64_w]
       rfl
      refine pure_ (i := 8) (N := some 24) (v := ?_) (a' := ?_) #[true, true, true, true, true, true, true, true, true, false, false, false, false, false, false, false, false, false, false, false, false, false, false] rfl rfl (any_of HT_.out (by kernel_rfl)) (fun _ _ _ h => h) (Or.inl ⟨by rfl, ?_⟩) ?_ ?_
      rotate_left
      ·intro w'
       go_simp
       with_reducible rfl
      rotate_left
      ·simp only [Act.put, sI, sZ, sS, i64_w]
       rfl
      refine pure_ (i := 9) (N := some 25) (v := ?_) (a' := ?_) #[true, true, true, true, true, true, true, true, true, true, false, false, false, false, false, false, false, false, false, false, false, false, false] rfl rfl (any_of HT_.out (by kernel_rfl)) (fun _ _ _ h => h) (Or.inl ⟨by rfl, ?_⟩) ?_ ?_
      rotate_left
      ·intro w'
       go_simp
       with_reducible rfl
      rotate_left
      ·simp only [Act.put, sI, sZ, sS, i64_w]
       rfl
      refine pure_ (i := 10) (N := some 26) (v := ?_) (a' := ?_) #[true, true, true, true, true, true, true, true, true, true, true, false, false, false, false, false, false, false, false, false, false, false, false] rfl rfl (any_of HT_.out (by kernel_rfl)) (fun _ _ _ h => h) (Or.inl ⟨by rfl, ?_⟩) ?_ ?_
      rotate_left
      ·intro w'
       go_simp
       with_reducible rfl
      rotate_left
      ·simp only [Act.put, sI, sZ, sS, i64_w]
       rfl
      refine pure_ (i := 12) (N := some 28) (v := ?_) (a' := ?_) #[true, true, true, true, true, true, true, true, true, true, true, false, true, false, false, false, false, false, false, false, false, false, false] rfl rfl (any_of HT_.out (by kernel_rfl)) (fun _ _ _ h => h) (Or.inl ⟨by rfl, ?_⟩) ?_ ?_
      rotate_left
      ·intro w'
       go_simp
       with_reducible rfl
      rotate_left
      ·simp only [Act.put, sI, sZ, sS, i64_w]
       rfl
      refine pure_ (i := 13) (N := some 29) (v := ?_) (a' := ?_) #[true, true, true, true, true, true, true, true, true, true, true, false, true, true, false, false, false, false, false, false, false, false, false] rfl rfl (any_of HT_.out (by kernel_rfl)) (fun _ _ _ h => h) (Or.inl ⟨by rfl, ?_⟩) ?_ ?_
      rotate_left
      ·intro w'
       go_simp
       with_reducible rfl
      rotate_left
      ·simp only [Act.put, sI, sZ, sS, i64_w]
       rfl
      refine pure_ (i := 16) (N := some 32) (v := ?_) (a' := ?_) #[true, true, true, true, true, true, true, true, true, true, true, false, true, true, false, false, true, false, false, false, false, false, false] rfl rfl (any_of HT_.out (by kernel_rfl)) (fun _ _ _ h => h) (Or.inl ⟨by rfl, ?_⟩) ?_ ?_
      rotate_left
      ·intro w'
       go_simp
       with_reducible rfl
      rotate_left
      ·simp only [Act.put, sI, sZ, sS, i64_w]
       rfl
      refine pure_ (i := 19) (N := some 35) (v := ?_) (a' := ?_) #[true, true, true, true, true, true, true, true, true, true, true, false, true, true, false, false, true, false, false, true, false, false, false] rfl rfl (any_of HT_.out (by kernel_rfl)) (fun _ _ _ h => h) (Or.inl ⟨by rfl, ?_⟩) ?_ ?_
      rotate_left
      ·intro w'
       go_simp
       with_reducible rfl
      rotate_left
      ·simp only [Act.put, sI, sZ, sS, i64_w]
       rfl
      refine take_ (i := 11) (N := some 27) (v := ?_) (a' := ?_) #[true, true, true, true, true, true, true, true, true, true, true, true, true, true, false, false, true, false, false, true, false, false, false] rfl rfl (take_ofW HT_.out HW_.out (by kernel_rfl)) (fun _ _ _ h => h) (Or.inl ⟨by rfl, ?_⟩) hHeld ?_ ?_
      rotate_left
      ·rintro w' ⟨s0, s1, s2, s3, s4, s5, s6, s7, s8⟩
       go_simp
       with_reducible rfl
      rotate_left
      ·simp only [Act.put, sI, sZ, sS, i64_w]
       rfl
      refine pure_ (i := 14) (N := some 30) (v := ?_) (a' := ?_) #[true, true, true, true, true, true, true, true, true, true, true, true, true, true, true, false, true, false, false, true, false, false, false] rfl rfl (any_of HT_.out (by kernel_rfl)) (fun _ _ _ h => h) (Or.inl ⟨by rfl, ?_⟩) ?_ ?_
      rotate_left
      ·intro w'
       go_simp
       with_reducible rfl
      rotate_left
      ·simp only [Act.put, sI, sZ, sS, i64_w]
       rfl
      refine take_ (i := 15) (N := some 31) (v := ?_) (a' := ?_) #[true, true, true, true, true, true, true, true, true, true, true, true, true, true, true, true, true, false, false, true, false, false, false] rfl rfl (take_ofW HT_.out HW_.out (by kernel_rfl)) (fun _ _ _ h => h) (Or.inl ⟨by rfl, ?_⟩) hHeld ?_ ?_
      rotate_left
      ·rintro w' ⟨s0, s1, s2, s3, s4, s5, s6, s7, s8⟩
       go_simp
       with_reducible rfl
      rotate_left
      ·simp only [Act.put, sI, sZ, sS, i64_w]
       rfl
      refine take_ (i := 17) (N := some 33) (v := ?_) (a' := ?_) #[true, true, true, true, true, true, true, true, true, true, true, true, true, true, true, true, true, true, false, true, false, false, false] rfl rfl (take_ofW HT_.out HW_.out (by kernel_rfl)) (fun _ _ _ h => h) (Or.inl ⟨by rfl, ?_⟩) hHeld ?_ ?_
      rotate_left
      ·rintro w' ⟨s0, s1, s2, s3, s4, s5, s6, s7, s8⟩
       go_simp
       with_reducible rfl
      rotate_left
      ·simp only [Act.put, sI, sZ, sS, i64_w]
       rfl
      refine one_ (i := 18) (N := some 34) #[true, true, true, true, true, true, true, true, true, true, true, true, true, true, true, true, true, true, true, true, false, false, false] rfl rfl (one_of HT_.out (by kernel_rfl)) (by decide) (fun K hK => ?_)
      refine goes_ Try.func30 (by kernel_rfl) rfl #[.slice A424_0 (rd_L3 ((rd_T51 l0 0).f2) (ji13)).length c424_0, .slice A1_1 l1_1.length c1_1] (by rfl) rfl rfl (by (try simp only [mA, mC, mN]); first | done | (simp only [hji13]; rfl) | rfl | (simp only [lD, lT]; rfl)) ?_
      with_reducible refine (nat_Mul.calls k1 _ _ (rd_L3 ((rd_T51 l0 0).f2) (ji13)) _ _ l1_1 t425 _ ?side1 ?side2 ?side3 ?side4 A16.out).mono ?_
      (case side1 => repeat (first | exact (Kd.C_below HR424_0.out HB.out) | (with_reducible refine cA ?_ _) | (with_reducible refine cN ?_ _) | (with_reducible refine cD ?_)))
      (case side2 => exact HC424_0.out)
      (case side3 => repeat (first | exact (Kd.C_below HR1_1.out HB.out) | (with_reducible refine cA ?_ _) | (with_reducible refine cN ?_ _) | (with_reducible refine cD ?_)))
      (case side4 => exact HC1_1.out)
      rintro e w20 ⟨v426, rfl, ho0, hb⟩
      refine ⟨_, rfl, ?_⟩
      have n0_ := aM (rE (by apply_rules [HO_6.out, rN, rD]) (rB ho0) hb); have n1_ := aM (Kd.R_lower (rW ho0 (rL (by apply_rules [HO_6.out, rN, rD]))) (bZ (by repeat (first | (with_reducible first | exact HB.out | apply bA | apply pN | apply bD | refine bE ?_ GE415.out) | exact HB.out)))); have n2_ := aM (blk_below (g := gb415) (o := .cells #[.slice A1_0 l1_0.length c1_0, .slice A1_1 l1_1.length c1_1] 57 (0, 0)) (by apply_rules [BK415.out, kN, kD, kA]) hb); have n3_ := aM (bS (by repeat (first | (with_reducible first | exact HB.out | apply bA | apply pN | apply bD | refine bE ?_ GE415.out) | exact HB.out)) hb); clear HO_6 BK415 HB; have HO_6 := n0_; have HO427 := n1_; have BK415 := n2_; have HB := n3_; clear n0_ n1_ n2_ n3_
      (try clear hb)
      (try clear hb2)
      (try clear hk)
      (try clear hi)
      (try clear ho0)
      obtain ⟨Ao21, co21, eo21⟩ := Kd.R_slice HO427.out
      (first | subst eo21 | (injection eo21 with f1_ f2_ f3_; have f4_ := f1_.symm; have f5_ := f3_.symm; clear f1_ f2_ f3_; subst f4_; subst f5_))
      obtain ⟨Ao22, co22, eo22⟩ := Kd.R_slice HO_6.out
      (first | subst eo22 | (injection eo22 with f1_ f2_ f3_; have f4_ := f1_.symm; have f5_ := f3_.symm; clear f1_ f2_ f3_; subst f4_; subst f5_))
      refine hK.out _ _ ⟨(kC BK415.out 0).trans rfl, (kC BK415.out 1).trans rfl, ((HB.out.cell (wL w _ hw422_0)).trans hw422_0), ((HB.out.cell (wL w _ hw422_1)).trans hw422_1), ((HB.out.cell (wL w _ hw422_2)).trans hw422_2), ((HB.out.cell (wL w _ hw423_0)).trans hw423_0), ((HB.out.cell (wL w _ hw423_1)).trans hw423_1), ((HB.out.cell (wL w _ hw423_2)).trans hw423_2), ((HB.out.cell (wL w _ hw424_0)).trans hw424_0)⟩ (fun hHeld => ?_)
      clear hK K
      refine norm_ (a' := ?_) ?_ ?_
      rotate_left
      ·show Act.put _ (some 34) _ = _
       simp only [Act.put, sI, sZ, sS, i64_w]
       rfl
      refine one_ (i := 20) (N := some 36) #[true, true, true, true, true, true, true, true, true, true, true, true, true, true, true, true, true, true, true, true, true, false, false] rfl rfl (one_of HT_.out (by kernel_rfl)) (by decide) (fun K hK => ?_)
      refine goes_ Try.func33 (by kernel_rfl) rfl #[.slice Ao21 t425.length co21, .slice Ao22 t419.length co22] (by rfl) rfl rfl (by (try simp only [mA, mC, mN]); first | done | rfl | (simp only [lD, lT]; rfl)) ?_
      with_reducible refine (nat_Cmp.calls k1 _ _ t425 _ _ t419 t428 _ ?side1 ?side2 ?side3 ?side4 A17.out).mono ?_
      (case side1 => repeat (first | exact (rS HO427.out).2.2 | (with_reducible refine cA ?_ _) | (with_reducible refine cN ?_ _) | (with_reducible refine cD ?_)))
      (case side2 => exact (rS HO427.out).2.1)
      (case side3 => repeat (first | exact (rS HO_6.out).2.2 | (with_reducible refine cA ?_ _) | (with_reducible refine cN ?_ _) | (with_reducible refine cD ?_)))
      (case side4 => exact (rS HO_6.out).2.1)
      rintro e w' ⟨rfl, ⟨nd, rfl⟩⟩
      refine ⟨_, rfl, ?_⟩
      refine hK.out _ _ ⟨(kC BK415.out 0).trans rfl, (kC BK415.out 1).trans rfl, ((HB.out.cell (wL w _ hw422_0)).trans hw422_0), ((HB.out.cell (wL w _ hw422_1)).trans hw422_1), ((HB.out.cell (wL w _ hw422_2)).trans hw422_2), ((HB.out.cell (wL w _ hw423_0)).trans hw423_0), ((HB.out.cell (wL w _ hw423_1)).trans hw423_1), ((HB.out.cell (wL w _ hw423_2)).trans hw423_2), ((HB.out.cell (wL w _ hw424_0)).trans hw424_0)⟩ (fun hHeld => ?_)
      clear hK K
      refine norm_ (a' := ?_) ?_ ?_
      rotate_left
      ·show Act.put _ (some 36) _ = _
       simp only [Act.put, sI, sZ, sS, i64_w]
       rfl
      refine pure_ (i := 21) (N := some 37) (v := ?_) (a' := ?_) #[true, true, true, true, true, true, true, true, true, true, true, true, true, true, true, true, true, true, true, true, true, true, false] rfl rfl (any_of HT_.out (by kernel_rfl)) (fun _ _ _ h => h) (Or.inl ⟨by rfl, ?_⟩) ?_ ?_
      rotate_left
      ·intro w'
       go_simp
       with_reducible rfl
      rotate_left
      ·simp only [Act.put, sI, sZ, sS, i64_w]
       rfl
      refine pure_ (i := 22) (N := some 38) (v := ?_) (a' := ?_) #[true, true, true, true, true, true, true, true, true, true, true, true, true, true, true, true, true, true, true, true, true, true, true] rfl rfl (any_of HT_.out (by kernel_rfl)) (fun _ _ _ h => h) (Or.inl ⟨by rfl, ?_⟩) ?_ ?_
      rotate_left
      ·intro w'
       go_simp
       with_reducible rfl
      rotate_left
      ·simp only [Act.put, sI, sZ, sS, i64_w]
       rfl
      refine done_ (done_of HT_.out (by kernel_rfl)) ?_
      try go_wp2
      go_roundg k1
      case measure => have := HK1.out; omega
      case rel => exact ⟨(ji13), (by first | rfl | (simp; done) | (simp only [← hji13] <;> (first | rfl | simp)) | (simp [*]; done)), (by first | exact H' | (have h_ := H'; simp only [← hji13] at h_; exact h_)), ⟨by have := HK1.out; omega⟩, ⟨by (with_reducible repeat (first | apply rN | apply rD)); exact Kd.R_mono HO_6.out (fun _ hk => trivial)⟩, ⟨by (with_reducible repeat (first | refine kN ?_ _ | refine kD ?_ | refine kA ?_ _)); exact BK415.out⟩, ⟨by repeat (first | (with_reducible first | exact HB.out | apply bA | apply pN | apply bD | refine bE ?_ GE415.out) | exact HB.out)⟩⟩
     ·rw [if_neg c18] at H
      have c18b0 : decide (t428 < 0) = false := decide_eq_false c18
      clear c18; have H' := aM H; clear H
      try go_wp2
      have n0_ := aM (rD HO_6.out); have n1_ := aM (kD BK415.out); have n2_ := aM (bD HB.out); clear HO_6 BK415 HB; have HO_6 := n0_; have BK415 := n1_; have HB := n2_; clear n0_ n1_ n2_
      have p422 : 0 ≤ (0 : Int) := (by omega)
      have q422 : 0 < (l0.length : Int) := oD (by first | (with_reducible assumption) | assumption)
      obtain ⟨ad422, A422_0, c422_0, A422_1, c422_1, A422_2, c422_2, e422, hx422_0, hx422_1, hx422_2, hl422_0, hi422_0, hl422_1, hi422_1, hl422_2, hi422_2⟩ := at_T51 HR0.out 0 p422 q422
      have hw422_2 := hx422_2
      (try rw [show ((0 : Int)).toNat = 0 from rfl] at hw422_2)
      (try rw [show 0 * 3 = 0 from rfl] at hw422_2)
      (try rw [Addr.add_zero'] at hw422_2)
      have hw422_1 := hx422_1
      (try rw [show ((0 : Int)).toNat = 0 from rfl] at hw422_1)
      (try rw [show 0 * 3 = 0 from rfl] at hw422_1)
      (try rw [Addr.add_zero'] at hw422_1)
      have hw422_0 := hx422_0
      (try rw [show ((0 : Int)).toNat = 0 from rfl] at hw422_0)
      (try rw [show 0 * 3 = 0 from rfl] at hw422_0)
      (try rw [Addr.add_zero'] at hw422_0)
      have hv422_0 := hx422_0
      have hv422_1 := hx422_1
      have hv422_2 := hx422_2
      cases e422
      have qi422 : (0 < l0.length) = True := eq_true (by omega)
      (try rw [show ((0 : Int)).toNat = 0 from rfl] at hx422_0)
      (try rw [show 0 * 3 = 0 from rfl] at hx422_0)
      (try rw [Addr.add_zero'] at hx422_0)
      (try rw [show ((0 : Int)).toNat = 0 from rfl] at hx422_1)
      (try rw [show 0 * 3 = 0 from rfl] at hx422_1)
      (try rw [Addr.add_zero'] at hx422_1)
      (try rw [show ((0 : Int)).toNat = 0 from rfl] at hx422_2)
      (try rw [show 0 * 3 = 0 from rfl] at hx422_2)
      (try rw [Addr.add_zero'] at hx422_2)
      replace hx422_0 := (HB.out.cell (wL w _ hx422_0)).trans hx422_0
      replace hx422_1 := (HB.out.cell (wL w _ hx422_1)).trans hx422_1
      replace hx422_2 := (HB.out.cell (wL w _ hx422_2)).trans hx422_2
      have HR422_0 := aM hi422_0
      have HC422_0 := aM hl422_0
      clear hi422_0 hl422_0
      have HR422_1 := aM hi422_1
      have HC422_1 := aM hl422_1
      clear hi422_1 hl422_1
      have HR422_2 := aM hi422_2
      have HC422_2 := aM hl422_2
      clear hi422_2 hl422_2
      replace p422 := eq_true p422
      replace q422 := eq_true q422
      have p423 : 0 ≤ (0 : Int) := (by omega)
      have q423 : 0 < (l0.length : Int) := oD (by first | (with_reducible assumption) | assumption)
      obtain ⟨ad423, A423_0, c423_0, A423_1, c423_1, A423_2, c423_2, e423, hx423_0, hx423_1, hx423_2, hl423_0, hi423_0, hl423_1, hi423_1, hl423_2, hi423_2⟩ := at_T51 HR0.out 0 p423 q423
      have hw423_2 := hx423_2
      (try rw [show ((0 : Int)).toNat = 0 from rfl] at hw423_2)
      (try rw [show 0 * 3 = 0 from rfl] at hw423_2)
      (try rw [Addr.add_zero'] at hw423_2)
      have hw423_1 := hx423_1
      (try rw [show ((0 : Int)).toNat = 0 from rfl] at hw423_1)
      (try rw [show 0 * 3 = 0 from rfl] at hw423_1)
      (try rw [Addr.add_zero'] at hw423_1)
      have hw423_0 := hx423_0
      (try rw [show ((0 : Int)).toNat = 0 from rfl] at hw423_0)
      (try rw [show 0 * 3 = 0 from rfl] at hw423_0)
      (try rw [Addr.add_zero'] at hw423_0)
      have hv423_0 := hx423_0
      have hv423_1 := hx423_1
      have hv423_2 := hx423_2
      obtain rfl : ad422 = ad423 := (by injection e423)
      have qi423 : (0 < l0.length) = True := eq_true (by omega)
      (try rw [show ((0 : Int)).toNat = 0 from rfl] at hx423_0)
      (try rw [show 0 * 3 = 0 from rfl] at hx423_0)
      (try rw [Addr.add_zero'] at hx423_0)
      (try rw [show ((0 : Int)).toNat = 0 from rfl] at hx423_1)
      (try rw [show 0 * 3 = 0 from rfl] at hx423_1)
      (try rw [Addr.add_zero'] at hx423_1)
      (try rw [show ((0 : Int)).toNat = 0 from rfl] at hx423_2)
      (try rw [show 0 * 3 = 0 from rfl] at hx423_2)
      (try rw [Addr.add_zero'] at hx423_2)
      replace hx423_0 := (HB.out.cell (wL w _ hx423_0)).trans hx423_0
      replace hx423_1 := (HB.out.cell (wL w _ hx423_1)).trans hx423_1
      replace hx423_2 := (HB.out.cell (wL w _ hx423_2)).trans hx423_2
      have HR423_0 := aM hi423_0
      have HC423_0 := aM hl423_0
      clear hi423_0 hl423_0
      have HR423_1 := aM hi423_1
      have HC423_1 := aM hl423_1
      clear hi423_1 hl423_1
      have HR423_2 := aM hi423_2
      have HC423_2 := aM hl423_2
      clear hi423_2 hl423_2
      replace p423 := eq_true p423
      replace q423 := eq_true q423
      have ea_ := Option.some.inj (hv422_0.symm.trans hv423_0)
      injection ea_ with ea_ en_ ec_
      subst ea_
      subst ec_
      clear en_
      have ea_ := Option.some.inj (hv422_1.symm.trans hv423_1)
      injection ea_ with ea_ en_ ec_
      subst ea_
      subst ec_
      clear en_
      have ea_ := Option.some.inj (hv422_2.symm.trans hv423_2)
      injection ea_ with ea_ en_ ec_
      subst ea_
      subst ec_
      clear en_
      have p424 : 0 ≤ ((ji13) : Int) := oD (by first | (with_reducible assumption) | assumption)
      have q424 : (ji13) < (((rd_T51 l0 0).f2).length : Int) := oD (by first | (with_reducible assumption) | assumption)
      obtain ⟨ad424, A424_0, c424_0, e424, hx424_0, hl424_0, hi424_0⟩ := at_L3 HR423_2.out (ji13) p424 q424
      have hw424_0 := hx424_0
      have hv424_0 := hx424_0
      cases e424
      replace hx424_0 := (HB.out.cell (wL w _ hx424_0)).trans hx424_0
      have HR424_0 := aM hi424_0
      have HC424_0 := aM hl424_0
      clear hi424_0 hl424_0
      replace p424 := eq_true p424
      replace q424 := eq_true q424
      refine start_ (n := 23) (S := fun w' => w'.cell? ⟨gb415, 0, none⟩ = some (.slice A1_0 l1_0.length c1_0) ∧ w'.cell? ⟨gb415, 1, none⟩ = some (.slice A1_1 l1_1.length c1_1) ∧ w'.cell? ad422 = some (.slice A422_0 ((rd_T51 l0 0).f0).length c422_0) ∧ w'.cell? ⟨ad422.block, ad422.off + 1, none⟩ = some (.slice A422_1 ((rd_T51 l0 0).f1).length c422_1) ∧ w'.cell? ⟨ad422.block, ad422.off + 2, none⟩ = some (.slice (some ad424) ((rd_T51 l0 0).f2).length c422_2) ∧ w'.cell? ad422 = some (.slice A422_0 ((rd_T51 l0 0).f0).length c422_0) ∧ w'.cell? ⟨ad422.block, ad422.off + 1, none⟩ = some (.slice A422_1 ((rd_T51 l0 0).f1).length c422_1) ∧ w'.cell? ⟨ad422.block, ad422.off + 2, none⟩ = some (.slice (some ad424) ((rd_T51 l0 0).f2).length c422_2) ∧ w'.cell? (ad424.add ((ji13)).toNat) = some (.slice A424_0 (rd_L3 ((rd_T51 l0 0).f2) (ji13)).length c424_0)) (ds := []) #[false, false, false, false, false, false, false, false, false, false, false, false, false, false, false, false, false, false, false, false, false, false, false] (by kernel_rfl) rfl rfl ⟨(kC BK415.out 0).trans rfl, (kC BK415.out 1).trans rfl, ((HB.out.cell (wL w _ hw422_0)).trans hw422_0), ((HB.out.cell (wL w _ hw422_1)).trans hw422_1), ((HB.out.cell (wL w _ hw422_2)).trans hw422_2), ((HB.out.cell (wL w _ hw423_0)).trans hw423_0), ((HB.out.cell (wL w _ hw423_1)).trans hw423_1), ((HB.out.cell (wL w _ hw423_2)).trans hw423_2), ((HB.out.cell (wL w _ hw424_0)).trans hw424_0)⟩ (fun hHeld => ?_); refine with_tabW load_line_first.tab3 load_line_first.bits3 (fun HT_ HW_ => ?_)
      generalize wr.drew = w23 at HO_6 BK415 HB HR422_0 HR422_1 HR422_2 HR423_0 HR423_1 HR423_2 HR424_0 hx422_0 hx422_1 hx422_2 hx423_0 hx423_1 hx423_2 hx424_0 hHeld ⊢
      refine pure_ (i := 0) (N := some 16) (v := ?_) (a' := ?_) #[true, false, false, false, false, false, false, false, false, false, false, false, false, false, false, false, false, false, false, false, false, false, false] rfl rfl (any_of HT_.out (by kernel_rfl)) (fun _ _ _ h => h) (Or.inl ⟨by rfl, ?_⟩) ?_ ?_
      rotate_left
      ·intro w'
       go_simp
       with_reducible rfl
      rotate_left
      ·simp only [Act.put, sI, sZ, sS, i64_w]
       rfl
      refine pure_ (i := 1) (N := some 17) (v := ?_) (a' := ?_) #[true, true, false, false, false, false, false, false, false, false, false, false, false, false, false, false, false, false, false, false, false, false, false] rfl rfl (any_of HT_.out (by kernel_rfl)) (fun _ _ _ h => h) (Or.inl ⟨by rfl, ?_⟩) ?_ ?_
      rotate_left
      ·intro w'
       go_simp
       with_reducible rfl
      rotate_left
      ·simp only [Act.put, sI, sZ, sS, i64_w]
       rfl
      refine pure_ (i := 2) (N := some 18) (v := ?_) (a' := ?_) #[true, true, true, false, false, false, false, false, false, false, false, false, false, false, false, false, false, false, false, false, false, false, false] rfl rfl (any_of HT_.out (by kernel_rfl)) (fun _ _ _ h => h) (Or.inl ⟨by rfl, ?_⟩) ?_ ?_
      rotate_left
      ·intro w'
       go_simp
       with_reducible rfl
      rotate_left
      ·simp only [Act.put, sI, sZ, sS, i64_w]
       rfl
      refine pure_ (i := 3) (N := some 19) (v := ?_) (a' := ?_) #[true, true, true, true, false, false, false, false, false, false, false, false, false, false, false, false, false, false, false, false, false, false, false] rfl rfl (any_of HT_.out (by kernel_rfl)) (fun _ _ _ h => h) (Or.inl ⟨by rfl, ?_⟩) ?_ ?_
      rotate_left
      ·intro w'
       go_simp
       with_reducible rfl
      rotate_left
      ·simp only [Act.put, sI, sZ, sS, i64_w]
       rfl
      refine take_ (i := 4) (N := some 20) (v := ?_) (a' := ?_) #[true, true, true, true, true, false, false, false, false, false, false, false, false, false, false, false, false, false, false, false, false, false, false] rfl rfl (take_ofW HT_.out HW_.out (by kernel_rfl)) (fun _ _ _ h => h) (Or.inl ⟨by rfl, ?_⟩) hHeld ?_ ?_
      rotate_left
      ·rintro w' ⟨s0, s1, s2, s3, s4, s5, s6, s7, s8⟩
       go_simp
       with_reducible rfl
      rotate_left
      ·simp only [Act.put, sI, sZ, sS, i64_w]
       rfl
      refine pure_ (i := 5) (N := some 21) (v := ?_) (a' := ?_) #[true, true, true, true, true, true, false, false, false, false, false, false, false, false, false, false, false, false, false, false, false, false, false] rfl rfl (any_of HT_.out (by kernel_rfl)) (fun _ _ _ h => h) (Or.inl ⟨by rfl, ?_⟩) ?_ ?_
      rotate_left
      ·intro w'
       go_simp
       with_reducible rfl
      rotate_left
      ·simp only [Act.put, sI, sZ, sS, i64_w]
       rfl
      refine pure_ (i := 6) (N := some 22) (v := ?_) (a' := ?_) #[true, true, true, true, true, true, true, false, false, false, false, false, false, false, false, false, false, false, false, false, false, false, false] rfl rfl (any_of HT_.out (by kernel_rfl)) (fun _ _ _ h => h) (Or.inl ⟨by rfl, ?_⟩) ?_ ?_
      rotate_left
      ·intro w'
       go_simp
       with_reducible rfl
      rotate_left
      ·simp only [Act.put, sI, sZ, sS, i64_w]
       rfl
      refine pure_ (i := 7) (N := some 23) (v := ?_) (a' := ?_) #[true, true, true, true, true, true, true, true, false, false, false, false, false, false, false, false, false, false, false, false, false, false, false] rfl rfl (any_of HT_.out (by kernel_rfl)) (fun _ _ _ h => h) (Or.inl ⟨by rfl, ?_⟩) ?_ ?_
      rotate_left
      ·intro w'
       go_simp
       with_reducible rfl
      rotate_left
      ·simp only [Act.put, sI, sZ, sS, i64_w]
       rfl
      refine pure_ (i := 8) (N := some 24) (v := ?_) (a' := ?_) #[true, true, true, true, true, true, true, true, true, false, false, false, false, false, false, false, false, false, false, false, false, false, false] rfl rfl (any_of HT_.out (by kernel_rfl)) (fun _ _ _ h => h) (Or.inl ⟨by rfl, ?_⟩) ?_ ?_
      rotate_left
      ·intro w'
       go_simp
       with_reducible rfl
      rotate_left
      ·simp only [Act.put, sI, sZ, sS, i64_w]
       rfl
      refine pure_ (i := 9) (N := some 25) (v := ?_) (a' := ?_) #[true, true, true, true, true, true, true, true, true, true, false, false, false, false, false, false, false, false, false, false, false, false, false] rfl rfl (any_of HT_.out (by kernel_rfl)) (fun _ _ _ h => h) (Or.inl ⟨by rfl, ?_⟩) ?_ ?_
      rotate_left
      ·intro w'
       go_simp
       with_reducible rfl
      rotate_left
      ·simp only [Act.put, sI, sZ, sS, i64_w]
       rfl
      refine pure_ (i := 10) (N := some 26) (v := ?_) (a' := ?_) #[true, true, true, true, true, true, true, true, true, true, true, false, false, false, false, false, false, false, false, false, false, false, false] rfl rfl (any_of HT_.out (by kernel_rfl)) (fun _ _ _ h => h) (Or.inl ⟨by rfl, ?_⟩) ?_ ?_
      rotate_left
      ·intro w'
       go_simp
       with_reducible rfl
      rotate_left
      ·simp only [Act.put, sI, sZ, sS, i64_w]
       rfl
      refine pure_ (i := 12) (N := some 28) (v := ?_) (a' := ?_) #[true, true, true, true, true, true, true, true, true, true, true, false, true, false, false, false, false, false, false, false, false, false, false] rfl rfl (any_of HT_.out (by kernel_rfl)) (fun _ _ _ h => h) (Or.inl ⟨by rfl, ?_⟩) ?_ ?_
      rotate_left
      ·intro w'
       go_simp
       with_reducible rfl
      rotate_left
      ·simp only [Act.put, sI, sZ, sS, i64_w]
       rfl
      refine pure_ (i := 13) (N := some 29) (v := ?_) (a' := ?_) #[true, true, true, true, true, true, true, true, true, true, true, false, true, true, false, false, false, false, false, false, false, false, false] rfl rfl (any_of HT_.out (by kernel_rfl)) (fun _ _ _ h => h) (Or.inl ⟨by rfl, ?_⟩) ?_ ?_
      rotate_left
      ·intro w'
       go_simp
       with_reducible rfl
      rotate_left
      ·simp only [Act.put, sI, sZ, sS, i64_w]
       rfl
      refine pure_ (i := 16) (N := some 32) (v := ?_) (a' := ?_) #[true, true, true, true, true, true, true, true, true, true, true, false, true, true, false, false, true, false, false, false, false, false, false] rfl rfl (any_of HT_.out (by kernel_rfl)) (fun _ _ _ h => h) (Or.inl ⟨by rfl, ?_⟩) ?_ ?_
      rotate_left
      ·intro w'
       go_simp
       with_reducible rfl
      rotate_left
      ·simp only [Act.put, sI, sZ, sS, i64_w]
       rfl
      refine pure_ (i := 19) (N := some 35) (v := ?_) (a' := ?_) #[true, true, true, true, true, true, true, true, true, true, true, false, true, true, false, false, true, false, false, true, false, false, false] rfl rfl (any_of HT_.out (by kernel_rfl)) (fun _ _ _ h => h) (Or.inl ⟨by rfl, ?_⟩) ?_ ?_
      rotate_left
      ·intro w'
       go_simp
       with_reducible rfl
      rotate_left
      ·simp only [Act.put, sI, sZ, sS, i64_w]
       rfl
      refine take_ (i := 11) (N := some 27) (v := ?_) (a' := ?_) #[true, true, true, true, true, true, true, true, true, true, true, true, true, true, false, false, true, false, false, true, false, false, false] rfl rfl (take_ofW HT_.out HW_.out (by kernel_rfl)) (fun _ _ _ h => h) (Or.inl ⟨by rfl, ?_⟩) hHeld ?_ ?_
      rotate_left
      ·rintro w' ⟨s0, s1, s2, s3, s4, s5, s6, s7, s8⟩
       go_simp
       with_reducible rfl
      rotate_left
      ·simp only [Act.put, sI, sZ, sS, i64_w]
       rfl
      refine pure_ (i := 14) (N := some 30) (v := ?_) (a' := ?_) #[true, true, true, true, true, true, true, true, true, true, true, true, true, true, true, false, true, false, false, true, false, false, false] rfl rfl (any_of HT_.out (by kernel_rfl)) (fun _ _ _ h => h) (Or.inl ⟨by rfl, ?_⟩) ?_ ?_
      rotate_left
      ·intro w'
       go_simp
       with_reducible rfl
      rotate_left
      ·simp only [Act.put, sI, sZ, sS, i64_w]
       rfl
      refine take_ (i := 15) (N := some 31) (v := ?_) (a' := ?_) #[true, true, true, true, true, true, true, true, true, true, true, true, true, true, true, true, true, false, false, true, false, false, false] rfl rfl (take_ofW HT_.out HW_.out (by kernel_rfl)) (fun _ _ _ h => h) (Or.inl ⟨by rfl, ?_⟩) hHeld ?_ ?_
      rotate_left
      ·rintro w' ⟨s0, s1, s2, s3, s4, s5, s6, s7, s8⟩
       go_simp
       with_reducible rfl
      rotate_left
      ·simp only [Act.put, sI, sZ, sS, i64_w]
       rfl
      refine take_ (i := 17) (N := some 33) (v := ?_) (a' := ?_) #[true, true, true, true, true, true, true, true, true, true, true, true, true, true, true, true, true, true, false, true, false, false, false] rfl rfl (take_ofW HT_.out HW_.out (by kernel_rfl)) (fun _ _ _ h => h) (Or.inl ⟨by rfl, ?_⟩) hHeld ?_ ?_
      rotate_left
      ·rintro w' ⟨s0, s1, s2, s3, s4, s5, s6, s7, s8⟩
       go_simp
       with_reducible rfl
      rotate_left
      ·simp only [Act.put, sI, sZ, sS, i64_w]
       rfl
      refine one_ (i := 18) (N := some 34) #[true, true, true, true, true, true, true, true, true, true, true, true, true, true, true, true, true, true, true, true, false, false, false] rfl rfl (one_of HT_.out (by kernel_rfl)) (by decide) (fun K hK => ?_)
      refine goes_ Try.func30 (by kernel_rfl) rfl #[.slice A424_0 (rd_L3 ((rd_T51 l0 0).f2) (ji13)).length c424_0, .slice A1_1 l1_1.length c1_1] (by rfl) rfl rfl (by (try simp only [mA, mC, mN]); first | done | (simp only [hji13]; rfl) | rfl | (simp only [lD, lT]; rfl)) ?_
      with_reducible refine (nat_Mul.calls k1 _ _ (rd_L3 ((rd_T51 l0 0).f2) (ji13)) _ _ l1_1 t425 _ ?side1 ?side2 ?side3 ?side4 A16.out).mono ?_
      (case side1 => repeat (first | exact (Kd.C_below HR424_0.out HB.out) | (with_reducible refine cA ?_ _) | (with_reducible refine cN ?_ _) | (with_reducible refine cD ?_)))
      (case side2 => exact HC424_0.out)
      (case side3 => repeat (first | exact (Kd.C_below HR1_1.out HB.out) | (with_reducible refine cA ?_ _) | (with_reducible refine cN ?_ _) | (with_reducible refine cD ?_)))
      (case side4 => exact HC1_1.out)
      rintro e w24 ⟨v426, rfl, ho0, hb⟩
      refine ⟨_, rfl, ?_⟩
      have n0_ := aM (rE (by apply_rules [HO_6.out, rN, rD]) (rB ho0) hb); have n1_ := aM (Kd.R_lower (rW ho0 (rL (by apply_rules [HO_6.out, rN, rD]))) (bZ (by repeat (first | (with_reducible first | exact HB.out | apply bA | apply pN | apply bD | refine bE ?_ GE415.out) | exact HB.out)))); have n2_ := aM (blk_below (g := gb415) (o := .cells #[.slice A1_0 l1_0.length c1_0, .slice A1_1 l1_1.length c1_1] 57 (0, 0)) (by apply_rules [BK415.out, kN, kD, kA]) hb); have n3_ := aM (bS (by repeat (first | (with_reducible first | exact HB.out | apply bA | apply pN | apply bD | refine bE ?_ GE415.out) | exact HB.out)) hb); clear HO_6 BK415 HB; have HO_6 := n0_; have HO427 := n1_; have BK415 := n2_; have HB := n3_; clear n0_ n1_ n2_ n3_
      (try clear hb)
      (try clear hb2)
      (try clear hk)
      (try clear hi)
      (try clear ho0)
      obtain ⟨Ao25, co25, eo25⟩ := Kd.R_slice HO427.out
      (first | subst eo25 | (injection eo25 with f1_ f2_ f3_; have f4_ := f1_.symm; have f5_ := f3_.symm; clear f1_ f2_ f3_; subst f4_; subst f5_))
      obtain ⟨Ao26, co26, eo26⟩ := Kd.R_slice HO_6.out
      (first | subst eo26 | (injection eo26 with f1_ f2_ f3_; have f4_ := f1_.symm; have f5_ := f3_.symm; clear f1_ f2_ f3_; subst f4_; subst f5_))
      refine hK.out _ _ ⟨(kC BK415.out 0).trans rfl, (kC BK415.out 1).trans rfl, ((HB.out.cell (wL w _ hw422_0)).trans hw422_0), ((HB.out.cell (wL w _ hw422_1)).trans hw422_1), ((HB.out.cell (wL w _ hw422_2)).trans hw422_2), ((HB.out.cell (wL w _ hw423_0)).trans hw423_0), ((HB.out.cell (wL w _ hw423_1)).trans hw423_1), ((HB.out.cell (wL w _ hw423_2)).trans hw423_2), ((HB.out.cell (wL w _ hw424_0)).trans hw424_0)⟩ (fun hHeld => ?_)
      clear hK K
      refine norm_ (a' := ?_) ?_ ?_
      rotate_left
      ·show Act.put _ (some 34) _ = _
       simp only [Act.put, sI, sZ, sS, i64_w]
       rfl
      refine one_ (i := 20) (N := some 36) #[true, true, true, true, true, true, true, true, true, true, true, true, true, true, true, true, true, true, true, true, true, false, false] rfl rfl (one_of HT_.out (by kernel_rfl)) (by decide) (fun K hK => ?_)
      refine goes_ Try.func33 (by kernel_rfl) rfl #[.slice Ao25 t425.length co25, .slice Ao26 t419.length co26] (by rfl) rfl rfl (by (try simp only [mA, mC, mN]); first | done | rfl | (simp only [lD, lT]; rfl)) ?_
      with_reducible refine (nat_Cmp.calls k1 _ _ t425 _ _ t419 t428 _ ?side1 ?side2 ?side3 ?side4 A17.out).mono ?_
      (case side1 => repeat (first | exact (rS HO427.out).2.2 | (with_reducible refine cA ?_ _) | (with_reducible refine cN ?_ _) | (with_reducible refine cD ?_)))
      (case side2 => exact (rS HO427.out).2.1)
      (case side3 => repeat (first | exact (rS HO_6.out).2.2 | (with_reducible refine cA ?_ _) | (with_reducible refine cN ?_ _) | (with_reducible refine cD ?_)))
      (case side4 => exact (rS HO_6.out).2.1)
      rintro e w' ⟨rfl, ⟨nd, rfl⟩⟩
      refine ⟨_, rfl, ?_⟩
      refine hK.out _ _ ⟨(kC BK415.out 0).trans rfl, (kC BK415.out 1).trans rfl, ((HB.out.cell (wL w _ hw422_0)).trans hw422_0), ((HB.out.cell (wL w _ hw422_1)).trans hw422_1), ((HB.out.cell (wL w _ hw422_2)).trans hw422_2), ((HB.out.cell (wL w _ hw423_0)).trans hw423_0), ((HB.out.cell (wL w _ hw423_1)).trans hw423_1), ((HB.out.cell (wL w _ hw423_2)).trans hw423_2), ((HB.out.cell (wL w _ hw424_0)).trans hw424_0)⟩ (fun hHeld => ?_)
      clear hK K
      refine norm_ (a' := ?_) ?_ ?_
      rotate_left
      ·show Act.put _ (some 36) _ = _
       simp only [Act.put, sI, sZ, sS, i64_w]
       rfl
      refine pure_ (i := 21) (N := some 37) (v := ?_) (a' := ?_) #[true, true, true, true, true, true, true, true, true, true, true, true, true, true, true, true, true, true, true, true, true, true, false] rfl rfl (any_of HT_.out (by kernel_rfl)) (fun _ _ _ h => h) (Or.inl ⟨by rfl, ?_⟩) ?_ ?_
      rotate_left
      ·intro w'
       go_simp
       with_reducible rfl
      rotate_left
      ·simp only [Act.put, sI, sZ, sS, i64_w]
       rfl
      refine pure_ (i := 22) (N := some 38) (v := ?_) (a' := ?_) #[true, true, true, true, true, true, true, true, true, true, true, true, true, true, true, true, true, true, true, true, true, true, true] rfl rfl (any_of HT_.out (by kernel_rfl)) (fun _ _ _ h => h) (Or.inl ⟨by rfl, ?_⟩) ?_ ?_
      rotate_left
      ·intro w'
       go_simp
       with_reducible rfl
      rotate_left
      ·simp only [Act.put, sI, sZ, sS, i64_w]
       rfl
      refine done_ (done_of HT_.out (by kernel_rfl)) ?_
      try go_wp2
      go_meet
      case rel => exact ⟨_, (x7_1), (by first | rfl | (simp; done) | (simp [*]; done)), (by first | exact H' | (have h_ := H'; simp only [← hji13] at h_; exact h_)), ⟨by have := HK1.out; first | omega | exact Nat.le_refl _⟩, ⟨by (with_reducible repeat (first | refine kN ?_ _ | refine kD ?_ | refine kA ?_ _)); exact BK415.out⟩, ⟨by repeat (first | (with_reducible first | exact HB.out | apply bA | apply pN | apply bD | refine bE ?_ GE415.out) | exact HB.out)⟩⟩
    ·rw [if_neg c12] at H
     have c12b0 : decide (x7_1 < (((rd_T51 l0 0).f0).length : Int)) = false := decide_eq_false c12
     clear c12; have H' := aM H; clear H
     try go_wp2
     have n0_ := aM (rD HO_6.out); have n1_ := aM (kD BK415.out); have n2_ := aM (bD HB.out); clear HO_6 BK415 HB; have HO_6 := n0_; have BK415 := n1_; have HB := n2_; clear n0_ n1_ n2_
     have p422 : 0 ≤ (0 : Int) := (by omega)
     have q422 : 0 < (l0.length : Int) := oD (by first | (with_reducible assumption) | assumption)
     obtain ⟨ad422, A422_0, c422_0, A422_1, c422_1, A422_2, c422_2, e422, hx422_0, hx422_1, hx422_2, hl422_0, hi422_0, hl422_1, hi422_1, hl422_2, hi422_2⟩ := at_T51 HR0.out 0 p422 q422
     have hw422_2 := hx422_2
     (try rw [show ((0 : Int)).toNat = 0 from rfl] at hw422_2)
     (try rw [show 0 * 3 = 0 from rfl] at hw422_2)
     (try rw [Addr.add_zero'] at hw422_2)
     have hw422_1 := hx422_1
     (try rw [show ((0 : Int)).toNat = 0 from rfl] at hw422_1)
     (try rw [show 0 * 3 = 0 from rfl] at hw422_1)
     (try rw [Addr.add_zero'] at hw422_1)
     have hw422_0 := hx422_0
     (try rw [show ((0 : Int)).toNat = 0 from rfl] at hw422_0)
     (try rw [show 0 * 3 = 0 from rfl] at hw422_0)
     (try rw [Addr.add_zero'] at hw422_0)
     have hv422_0 := hx422_0
     have hv422_1 := hx422_1
     have hv422_2 := hx422_2
     cases e422
     have qi422 : (0 < l0.length) = True := eq_true (by omega)
     (try rw [show ((0 : Int)).toNat = 0 from rfl] at hx422_0)
     (try rw [show 0 * 3 = 0 from rfl] at hx422_0)
     (try rw [Addr.add_zero'] at hx422_0)
     (try rw [show ((0 : Int)).toNat = 0 from rfl] at hx422_1)
     (try rw [show 0 * 3 = 0 from rfl] at hx422_1)
     (try rw [Addr.add_zero'] at hx422_1)
     (try rw [show ((0 : Int)).toNat = 0 from rfl] at hx422_2)
     (try rw [show 0 * 3 = 0 from rfl] at hx422_2)
     (try rw [Addr.add_zero'] at hx422_2)
     replace hx422_0 := (HB.out.cell (wL w _ hx422_0)).trans hx422_0
     replace hx422_1 := (HB.out.cell (wL w _ hx422_1)).trans hx422_1
     replace hx422_2 := (HB.out.cell (wL w _ hx422_2)).trans hx422_2
     have HR422_0 := aM hi422_0
     have HC422_0 := aM hl422_0
     clear hi422_0 hl422_0
     have HR422_1 := aM hi422_1
     have HC422_1 := aM hl422_1
     clear hi422_1 hl422_1
     have HR422_2 := aM hi422_2
     have HC422_2 := aM hl422_2
     clear hi422_2 hl422_2
     replace p422 := eq_true p422
     replace q422 := eq_true q422
     refine start_ (n := 23) (S := fun w' => w'.cell? ad422 = some (.slice A422_0 ((rd_T51 l0 0).f0).length c422_0) ∧ w'.cell? ⟨ad422.block, ad422.off + 1, none⟩ = some (.slice A422_1 ((rd_T51 l0 0).f1).length c422_1) ∧ w'.cell? ⟨ad422.block, ad422.off + 2, none⟩ = some (.slice A422_2 ((rd_T51 l0 0).f2).length c422_2)) (ds := []) #[false, false, false, false, false, false, false, false, false, false, false, false, false, false, false, false, false, false, false, false, false, false, false] (by kernel_rfl) rfl rfl ⟨((HB.out.cell (wL w _ hw422_0)).trans hw422_0), ((HB.out.cell (wL w _ hw422_1)).trans hw422_1), ((HB.out.cell (wL w _ hw422_2)).trans hw422_2)⟩ (fun hHeld => ?_); refine with_tabW load_line_first.tab3 load_line_first.bits3 (fun HT_ HW_ => ?_)
     generalize wr.drew = w27 at HO_6 BK415 HB HR422_0 HR422_1 HR422_2 hx422_0 hx422_1 hx422_2 hHeld ⊢
     refine pure_ (i := 0) (N := some 16) (v := ?_) (a' := ?_) #[true, false, false, false, false, false, false, false, false, false, false, false, false, false, false, false, false, false, false, false, false, false, false] rfl rfl (any_of HT_.out (by kernel_rfl)) (fun _ _ _ h => h) (Or.inl ⟨by rfl, ?_⟩) ?_ ?_
     rotate_left
     ·intro w'
      go_simp
      with_reducible rfl
     rotate_left
     ·simp only [Act.put, sI, sZ, sS, i64_w]
      rfl
     refine pure_ (i := 1) (N := some 17) (v := ?_) (a' := ?_) #[true, true, false, false, false, false, false, false, false, false, false, false, false, false, false, false, false, false, false, false, false, false, false] rfl rfl (any_of HT_.out (by kernel_rfl)) (fun _ _ _ h => h) (Or.inl ⟨by rfl, ?_⟩) ?_ ?_
     rotate_left
     ·intro w'
      go_simp
      with_reducible rfl
     rotate_left
     ·simp only [Act.put, sI, sZ, sS, i64_w]
      rfl
     refine pure_ (i := 2) (N := some 18) (v := ?_) (a' := ?_) #[true, true, true, false, false, false, false, false, false, false, false, false, false, false, false, false, false, false, false, false, false, false, false] rfl rfl (any_of HT_.out (by kernel_rfl)) (fun _ _ _ h => h) (Or.inl ⟨by rfl, ?_⟩) ?_ ?_
     rotate_left
     ·intro w'
      go_simp
      with_reducible rfl
     rotate_left
     ·simp only [Act.put, sI, sZ, sS, i64_w]
      rfl
     refine pure_ (i := 3) (N := some 19) (v := ?_) (a' := ?_) #[true, true, true, true, false, false, false, false, false, false, false, false, false, false, false, false, false, false, false, false, false, false, false] rfl rfl (any_of HT_.out (by kernel_rfl)) (fun _ _ _ h => h) (Or.inl ⟨by rfl, ?_⟩) ?_ ?_
     rotate_left
     ·intro w'
      go_simp
      with_reducible rfl
     rotate_left
     ·simp only [Act.put, sI, sZ, sS, i64_w]
      rfl
     refine take_ (i := 4) (N := some 20) (v := ?_) (a' := ?_) #[true, true, true, true, true, false, false, false, false, false, false, false, false, false, false, false, false, false, false, false, false, false, false] rfl rfl (take_ofW HT_.out HW_.out (by kernel_rfl)) (fun _ _ _ h => h) (Or.inl ⟨by rfl, ?_⟩) hHeld ?_ ?_
     rotate_left
     ·rintro w' ⟨s0, s1, s2⟩
      go_simp
      with_reducible rfl
     rotate_left
     ·simp only [Act.put, sI, sZ, sS, i64_w]
      rfl
     refine pure_ (i := 5) (N := some 21) (v := ?_) (a' := ?_) #[true, true, true, true, true, true, false, false, false, false, false, false, false, false, false, false, false, false, false, false, false, false, false] rfl rfl (any_of HT_.out (by kernel_rfl)) (fun _ _ _ h => h) (Or.inl ⟨by rfl, ?_⟩) ?_ ?_
     rotate_left
     ·intro w'
      go_simp
      with_reducible rfl
     rotate_left
     ·simp only [Act.put, sI, sZ, sS, i64_w]
      rfl
     refine pure_ (i := 6) (N := some 22) (v := ?_) (a' := ?_) #[true, true, true, true, true, true, true, false, false, false, false, false, false, false, false, false, false, false, false, false, false, false, false] rfl rfl (any_of HT_.out (by kernel_rfl)) (fun _ _ _ h => h) (Or.inl ⟨by rfl, ?_⟩) ?_ ?_
     rotate_left
     ·intro w'
      go_simp
      with_reducible rfl
     rotate_left
     ·simp only [Act.put, sI, sZ, sS, i64_w]
      rfl
     refine pure_ (i := 7) (N := some 23) (v := ?_) (a' := ?_) #[true, true, true, true, true, true, true, true, false, false, false, false, false, false, false, false, false, false, false, false, false, false, false] rfl rfl (any_of HT_.out (by kernel_rfl)) (fun _ _ _ h => h) (Or.inl ⟨by rfl, ?_⟩) ?_ ?_
     rotate_left
     ·intro w'
      go_simp
      with_reducible rfl
     rotate_left
     ·simp only [Act.put, sI, sZ, sS, i64_w]
      rfl
     refine pure_ (i := 8) (N := some 24) (v := undef) (a' := ?_) #[true, true, true, true, true, true, true, true, true, false, false, false, false, false, false, false, false, false, false, false, false, false, false] rfl rfl (any_of HT_.out (by kernel_rfl)) (fun _ _ _ h => h) (Or.inr ⟨by rfl, rfl⟩) ?_ ?_
     rotate_left
     ·simp only [Act.put, sI, sZ, sS, i64_w]
      rfl
     refine pure_ (i := 9) (N := some 25) (v := undef) (a' := ?_) #[true, true, true, true, true, true, true, true, true, true, false, false, false, false, false, false, false, false, false, false, false, false, false] rfl rfl (any_of HT_.out (by kernel_rfl)) (fun _ _ _ h => h) (Or.inr ⟨by rfl, rfl⟩) ?_ ?_
     rotate_left
     ·simp only [Act.put, sI, sZ, sS, i64_w]
      rfl
     refine pure_ (i := 10) (N := some 26) (v := undef) (a' := ?_) #[true, true, true, true, true, true, true, true, true, true, true, false, false, false, false, false, false, false, false, false, false, false, false] rfl rfl (any_of HT_.out (by kernel_rfl)) (fun _ _ _ h => h) (Or.inr ⟨by rfl, rfl⟩) ?_ ?_
     rotate_left
     ·simp only [Act.put, sI, sZ, sS, i64_w]
      rfl
     refine pure_ (i := 11) (N := some 27) (v := undef) (a' := ?_) #[true, true, true, true, true, true, true, true, true, true, true, true, false, false, false, false, false, false, false, false, false, false, false] rfl rfl (any_of HT_.out (by kernel_rfl)) (fun _ _ _ h => h) (Or.inr ⟨by rfl, rfl⟩) ?_ ?_
     rotate_left
     ·simp only [Act.put, sI, sZ, sS, i64_w]
      rfl
     refine pure_ (i := 12) (N := some 28) (v := undef) (a' := ?_) #[true, true, true, true, true, true, true, true, true, true, true, true, true, false, false, false, false, false, false, false, false, false, false] rfl rfl (any_of HT_.out (by kernel_rfl)) (fun _ _ _ h => h) (Or.inr ⟨by rfl, rfl⟩) ?_ ?_
     rotate_left
     ·simp only [Act.put, sI, sZ, sS, i64_w]
      rfl
     refine pure_ (i := 13) (N := some 29) (v := undef) (a' := ?_) #[true, true, true, true, true, true, true, true, true, true, true, true, true, true, false, false, false, false, false, false, false, false, false] rfl rfl (any_of HT_.out (by kernel_rfl)) (fun _ _ _ h => h) (Or.inr ⟨by rfl, rfl⟩) ?_ ?_
     rotate_left
     ·simp only [Act.put, sI, sZ, sS, i64_w]
      rfl
     refine pure_ (i := 14) (N := some 30) (v := undef) (a' := ?_) #[true, true, true, true, true, true, true, true, true, true, true, true, true, true, true, false, false, false, false, false, false, false, false] rfl rfl (any_of HT_.out (by kernel_rfl)) (fun _ _ _ h => h) (Or.inr ⟨by rfl, rfl⟩) ?_ ?_
     rotate_left
     ·simp only [Act.put, sI, sZ, sS, i64_w]
      rfl
     refine pure_ (i := 15) (N := some 31) (v := undef) (a' := ?_) #[true, true, true, true, true, true, true, true, true, true, true, true, true, true, true, true, false, false, false, false, false, false, false] rfl rfl (any_of HT_.out (by kernel_rfl)) (fun _ _ _ h => h) (Or.inr ⟨by rfl, rfl⟩) ?_ ?_
     rotate_left
     ·simp only [Act.put, sI, sZ, sS, i64_w]
      rfl
     refine pure_ (i := 16) (N := some 32) (v := undef) (a' := ?_) #[true, true, true, true, true, true, true, true, true, true, true, true, true, true, true, true, true, false, false, false, false, false, false] rfl rfl (any_of HT_.out (by kernel_rfl)) (fun _ _ _ h => h) (Or.inr ⟨by rfl, rfl⟩) ?_ ?_
     rotate_left
     ·simp only [Act.put, sI, sZ, sS, i64_w]
      rfl
     refine pure_ (i := 17) (N := some 33) (v := undef) (a' := ?_) #[true, true, true, true, true, true, true, true, true, true, true, true, true, true, true, true, true, true, false, false, false, false, false] rfl rfl (any_of HT_.out (by kernel_rfl)) (fun _ _ _ h => h) (Or.inr ⟨by rfl, rfl⟩) ?_ ?_
     rotate_left
     ·simp only [Act.put, sI, sZ, sS, i64_w]
      rfl
     refine pure_ (i := 18) (N := some 34) (v := undef) (a' := ?_) #[true, true, true, true, true, true, true, true, true, true, true, true, true, true, true, true, true, true, true, false, false, false, false] rfl rfl (any_of HT_.out (by kernel_rfl)) (fun _ _ _ h => h) (Or.inr ⟨by rfl, rfl⟩) ?_ ?_
     rotate_left
     ·simp only [Act.put, sI, sZ, sS, i64_w]
      rfl
     refine pure_ (i := 19) (N := some 35) (v := undef) (a' := ?_) #[true, true, true, true, true, true, true, true, true, true, true, true, true, true, true, true, true, true, true, true, false, false, false] rfl rfl (any_of HT_.out (by kernel_rfl)) (fun _ _ _ h => h) (Or.inr ⟨by rfl, rfl⟩) ?_ ?_
     rotate_left
     ·simp only [Act.put, sI, sZ, sS, i64_w]
      rfl
     refine pure_ (i := 20) (N := some 36) (v := undef) (a' := ?_) #[true, true, true, true, true, true, true, true, true, true, true, true, true, true, true, true, true, true, true, true, true, false, false] rfl rfl (any_of HT_.out (by kernel_rfl)) (fun _ _ _ h => h) (Or.inr ⟨by rfl, rfl⟩) ?_ ?_
     rotate_left
     ·simp only [Act.put, sI, sZ, sS, i64_w]
      rfl
     refine pure_ (i := 21) (N := some 37) (v := undef) (a' := ?_) #[true, true, true, true, true, true, true, true, true, true, true, true, true, true, true, true, true, true, true, true, true, true, false] rfl rfl (any_of HT_.out (by kernel_rfl)) (fun _ _ _ h => h) (Or.inr ⟨by rfl, rfl⟩) ?_ ?_
     rotate_left
     ·simp only [Act.put, sI, sZ, sS, i64_w]
      rfl
     refine pure_ (i := 22) (N := some 38) (v := ?_) (a' := ?_) #[true, true, true, true, true, true, true, true, true, true, true, true, true, true, true, true, true, true, true, true, true, true, true] rfl rfl (any_of HT_.out (by kernel_rfl)) (fun _ _ _ h => h) (Or.inl ⟨by rfl, ?_⟩) ?_ ?_
     rotate_left
     ·intro w'
      go_simp
      with_reducible rfl
     rotate_left
     ·simp only [Act.put, sI, sZ, sS, i64_w]
      rfl
     refine done_ (done_of HT_.out (by kernel_rfl)) ?_
     try go_wp2
     go_meet
     case rel => exact ⟨_, (x7_1), (by first | rfl | (simp; done) | (simp [*]; done)), H', ⟨by have := HK1.out; first | omega | exact Nat.le_refl _⟩, ⟨by (with_reducible repeat (first | refine kN ?_ _ | refine kD ?_ | refine kA ?_ _)); exact BK415.out⟩, ⟨by repeat (first | (with_reducible first | exact HB.out | apply bA | apply pN | apply bD | refine bE ?_ GE415.out) | exact HB.out)⟩⟩
 case rest =>
  clear HC5
  try clear c1
  try clear p2
  try clear c3
  try clear c4
  try clear p4
  try clear q4
  try clear hx4
  try clear qi4
  try clear c11
  try clear c12
  try clear c12b0
  try clear c14
  try clear c15
  try clear c18
  try clear c18b0
  try clear hx422_0
  try clear hx422_1
  try clear hx422_2
  try clear hx423_0
  try clear hx423_1
  try clear hx423_2
  try clear hx424_0
  try clear p422
  try clear p423
  try clear p424
  try clear q422
  try clear q423
  try clear q424
  obtain ⟨kq, x7_4, rfl, HA, HJ4, BK415, HB⟩ := hcut
  cases kq with
  | zero => exact absurd HA.out (by simp [load_line_first.j1])
  | succ kj4 =>
   have H := HA.out
   clear HA
   simp only [load_line_first.j1] at H
   by_cases c28 : 0 < (l0.length : Int)
   rotate_left
   ·rw [if_neg c28] at H; cases H
   rw [if_pos c28] at H
   have c28b0 : decide (0 < (l0.length : Int)) = true := dT c28
   have c28b1 : decide (0 < l0.length) = true := dT (by omega)
   clear c28
   by_cases c29 : x7_4 = (((rd_T51 l0 0).f0).length : Int)
   ·rw [if_pos c29] at H
    have c29b0 : (x7_4 == (((rd_T51 l0 0).f0).length : Int)) = true := beq_iff_eq.mpr c29
    have c29b1 : (x7_4 != (((rd_T51 l0 0).f0).length : Int)) = false := bne_eq_false_iff_eq.mpr c29
    clear c29
    simp only [Option.some.injEq, Prod.mk.injEq] at H
    obtain ⟨rfl, rfl⟩ := H
    have p429 : 0 ≤ (0 : Int) := (by omega)
    have q429 : 0 < (l0.length : Int) := oD (by first | (with_reducible assumption) | assumption)
    obtain ⟨ad429, A429_0, c429_0, A429_1, c429_1, A429_2, c429_2, e429, hx429_0, hx429_1, hx429_2, hl429_0, hi429_0, hl429_1, hi429_1, hl429_2, hi429_2⟩ := at_T51 HR0.out 0 p429 q429
    have hv429_0 := hx429_0
    have hv429_1 := hx429_1
    have hv429_2 := hx429_2
    cases e429
    have qi429 : (0 < l0.length) = True := eq_true (by omega)
    (try rw [show ((0 : Int)).toNat = 0 from rfl] at hx429_0)
    (try rw [show 0 * 3 = 0 from rfl] at hx429_0)
    (try rw [Addr.add_zero'] at hx429_0)
    (try rw [show ((0 : Int)).toNat = 0 from rfl] at hx429_1)
    (try rw [show 0 * 3 = 0 from rfl] at hx429_1)
    (try rw [Addr.add_zero'] at hx429_1)
    (try rw [show ((0 : Int)).toNat = 0 from rfl] at hx429_2)
    (try rw [show 0 * 3 = 0 from rfl] at hx429_2)
    (try rw [Addr.add_zero'] at hx429_2)
    replace hx429_0 := (HB.out.cell (wL w _ hx429_0)).trans hx429_0
    replace hx429_1 := (HB.out.cell (wL w _ hx429_1)).trans hx429_1
    replace hx429_2 := (HB.out.cell (wL w _ hx429_2)).trans hx429_2
    have HR429_0 := aM hi429_0
    have HC429_0 := aM hl429_0
    clear hi429_0 hl429_0
    have HR429_1 := aM hi429_1
    have HC429_1 := aM hl429_1
    clear hi429_1 hl429_1
    have HR429_2 := aM hi429_2
    have HC429_2 := aM hl429_2
    clear hi429_2 hl429_2
    replace p429 := eq_true p429
    replace q429 := eq_true q429
    go_wp2
    go_ret2
    exact ⟨by first | rfl | (simp [errW_none, errW_some] <;> rfl) | (simp [*, errW_none, errW_some] <;> rfl), by repeat (first | (with_reducible first | exact HB.out | apply bA | apply pN | apply bD | refine bE ?_ GE415.out) | exact HB.out)⟩
   ·rw [if_neg c29] at H
    have c29b0 : (x7_4 == (((rd_T51 l0 0).f0).length : Int)) = false := beq_eq_false_iff_ne.mpr c29
    have c29b1 : (x7_4 != (((rd_T51 l0 0).f0).length : Int)) = true := bne_iff_ne.mpr c29
    by_cases c30 : 0 ≤ x7_4
    rotate_left
    ·rw [if_neg c30] at H; cases H
    rw [if_pos c30] at H
    have c30b0 : decide (0 ≤ x7_4) = true := dT c30
    clear c30
    by_cases c31 : x7_4 < (((rd_T51 l0 0).f0).length : Int)
    rotate_left
    ·rw [if_neg c31] at H; cases H
    rw [if_pos c31] at H
    have c31b0 : decide (x7_4 < (((rd_T51 l0 0).f0).length : Int)) = true := dT c31
    clear c31; have H' := aM H; clear H
    have p429 : 0 ≤ (0 : Int) := (by omega)
    have q429 : 0 < (l0.length : Int) := oD (by first | (with_reducible assumption) | assumption)
    obtain ⟨ad429, A429_0, c429_0, A429_1, c429_1, A429_2, c429_2, e429, hx429_0, hx429_1, hx429_2, hl429_0, hi429_0, hl429_1, hi429_1, hl429_2, hi429_2⟩ := at_T51 HR0.out 0 p429 q429
    have hv429_0 := hx429_0
    have hv429_1 := hx429_1
    have hv429_2 := hx429_2
    cases e429
    have qi429 : (0 < l0.length) = True := eq_true (by omega)
    (try rw [show ((0 : Int)).toNat = 0 from rfl] at hx429_0)
    (try rw [show 0 * 3 = 0 from rfl] at hx429_0)
    (try rw [Addr.add_zero'] at hx429_0)
    (try rw [show ((0 : Int)).toNat = 0 from rfl] at hx429_1)
    (try rw [show 0 * 3 = 0 from rfl] at hx429_1)
    (try rw [Addr.add_zero'] at hx429_1)
    (try rw [show ((0 : Int)).toNat = 0 from rfl] at hx429_2)
    (try rw [show 0 * 3 = 0 from rfl] at hx429_2)
    (try rw [Addr.add_zero'] at hx429_2)
    replace hx429_0 := (HB.out.cell (wL w _ hx429_0)).trans hx429_0
    replace hx429_1 := (HB.out.cell (wL w _ hx429_1)).trans hx429_1
    replace hx429_2 := (HB.out.cell (wL w _ hx429_2)).trans hx429_2
    have HR429_0 := aM hi429_0
    have HC429_0 := aM hl429_0
    clear hi429_0 hl429_0
    have HR429_1 := aM hi429_1
    have HC429_1 := aM hl429_1
    clear hi429_1 hl429_1
    have HR429_2 := aM hi429_2
    have HC429_2 := aM hl429_2
    clear hi429_2 hl429_2
    replace p429 := eq_true p429
    replace q429 := eq_true q429
    try go_wp2
    have n0_ := aM (kD BK415.out); have n1_ := aM (bD HB.out); clear BK415 HB; have BK415 := n0_; have HB := n1_; clear n0_ n1_
    have p430 : 0 ≤ (0 : Int) := (by omega)
    have q430 : 0 < (l0.length : Int) := oD (by first | (with_reducible assumption) | assumption)
    obtain ⟨ad430, A430_0, c430_0, A430_1, c430_1, A430_2, c430_2, e430, hx430_0, hx430_1, hx430_2, hl430_0, hi430_0, hl430_1, hi430_1, hl430_2, hi430_2⟩ := at_T51 HR0.out 0 p430 q430
    have hw430_2 := hx430_2
    (try rw [show ((0 : Int)).toNat = 0 from rfl] at hw430_2)
    (try rw [show 0 * 3 = 0 from rfl] at hw430_2)
    (try rw [Addr.add_zero'] at hw430_2)
    have hw430_1 := hx430_1
    (try rw [show ((0 : Int)).toNat = 0 from rfl] at hw430_1)
    (try rw [show 0 * 3 = 0 from rfl] at hw430_1)
    (try rw [Addr.add_zero'] at hw430_1)
    have hw430_0 := hx430_0
    (try rw [show ((0 : Int)).toNat = 0 from rfl] at hw430_0)
    (try rw [show 0 * 3 = 0 from rfl] at hw430_0)
    (try rw [Addr.add_zero'] at hw430_0)
    have hv430_0 := hx430_0
    have hv430_1 := hx430_1
    have hv430_2 := hx430_2
    obtain rfl : ad429 = ad430 := (by injection e430)
    have qi430 : (0 < l0.length) = True := eq_true (by omega)
    (try rw [show ((0 : Int)).toNat = 0 from rfl] at hx430_0)
    (try rw [show 0 * 3 = 0 from rfl] at hx430_0)
    (try rw [Addr.add_zero'] at hx430_0)
    (try rw [show ((0 : Int)).toNat = 0 from rfl] at hx430_1)
    (try rw [show 0 * 3 = 0 from rfl] at hx430_1)
    (try rw [Addr.add_zero'] at hx430_1)
    (try rw [show ((0 : Int)).toNat = 0 from rfl] at hx430_2)
    (try rw [show 0 * 3 = 0 from rfl] at hx430_2)
    (try rw [Addr.add_zero'] at hx430_2)
    replace hx430_0 := (HB.out.cell (wL w _ hx430_0)).trans hx430_0
    replace hx430_1 := (HB.out.cell (wL w _ hx430_1)).trans hx430_1
    replace hx430_2 := (HB.out.cell (wL w _ hx430_2)).trans hx430_2
    have HR430_0 := aM hi430_0
    have HC430_0 := aM hl430_0
    clear hi430_0 hl430_0
    have HR430_1 := aM hi430_1
    have HC430_1 := aM hl430_1
    clear hi430_1 hl430_1
    have HR430_2 := aM hi430_2
    have HC430_2 := aM hl430_2
    clear hi430_2 hl430_2
    replace p430 := eq_true p430
    replace q430 := eq_true q430
    have p431 : 0 ≤ (x7_4 : Int) := oD (by first | (with_reducible assumption) | assumption)
    have q431 : x7_4 < (((rd_T51 l0 0).f0).length : Int) := oD (by first | (with_reducible assumption) | assumption)
    obtain ⟨ad431, e431, hx431_0, hx431_1, hx431_2⟩ := at_T40 HR430_0.out x7_4 p431 q431
    have hw431_2 := hx431_2
    have hw431_1 := hx431_1
    have hw431_0 := hx431_0
    cases e431
    replace hx431_0 := (HB.out.cell (wL w _ hx431_0)).trans hx431_0
    replace hx431_1 := (HB.out.cell (wL w _ hx431_1)).trans hx431_1
    replace hx431_2 := (HB.out.cell (wL w _ hx431_2)).trans hx431_2
    replace p431 := eq_true p431
    replace q431 := eq_true q431
    refine start_ (n := 10) (S := fun w' => w'.cell? ad429 = some (.slice (some ad431) ((rd_T51 l0 0).f0).length c430_0) ∧ w'.cell? ⟨ad429.block, ad429.off + 1, none⟩ = some (.slice A430_1 ((rd_T51 l0 0).f1).length c430_1) ∧ w'.cell? ⟨ad429.block, ad429.off + 2, none⟩ = some (.slice A430_2 ((rd_T51 l0 0).f2).length c430_2) ∧ w'.cell? (ad431.add ((x7_4).toNat * 3)) = some (.int .i64 ((rd_T40 ((rd_T51 l0 0).f0) x7_4).f0)) ∧ w'.cell? ⟨(ad431.add ((x7_4).toNat * 3)).block, (ad431.add ((x7_4).toNat * 3)).off + 1, none⟩ = some (.int .i64 ((rd_T40 ((rd_T51 l0 0).f0) x7_4).f1)) ∧ w'.cell? ⟨(ad431.add ((x7_4).toNat * 3)).block, (ad431.add ((x7_4).toNat * 3)).off + 2, none⟩ = some (.int .i64 ((rd_T40 ((rd_T51 l0 0).f0) x7_4).f2))) (ds := []) #[false, false, false, false, false, false, false, false, false, false] (by kernel_rfl) rfl rfl ⟨((HB.out.cell (wL w _ hw430_0)).trans hw430_0), ((HB.out.cell (wL w _ hw430_1)).trans hw430_1), ((HB.out.cell (wL w _ hw430_2)).trans hw430_2), ((HB.out.cell (wL w _ hw431_0)).trans hw431_0), ((HB.out.cell (wL w _ hw431_1)).trans hw431_1), ((HB.out.cell (wL w _ hw431_2)).trans hw431_2)⟩ (fun hHeld => ?_); refine with_tabW load_line_first.tab7 load_line_first.bits7 (fun HT_ HW_ => ?_)
    generalize wc.drew = w32 at BK415 HB HR430_0 HR430_1 HR430_2 hx430_0 hx430_1 hx430_2 hx431_0 hx431_1 hx431_2 hHeld ⊢
    refine pure_ (i := 0) (N := some 48) (v := ?_) (a' := ?_) #[true, false, false, false, false, false, false, false, false, false] rfl rfl (any_of HT_.out (by kernel_rfl)) (fun _ _ _ h => h) (Or.inl ⟨by rfl, ?_⟩) ?_ ?_
    rotate_left
    ·intro w'
     go_simp
     with_reducible rfl
    rotate_left
    ·simp only [Act.put, sI, sZ, sS, i64_w]
     rfl
    refine pure_ (i := 1) (N := some 49) (v := ?_) (a' := ?_) #[true, true, false, false, false, false, false, false, false, false] rfl rfl (any_of HT_.out (by kernel_rfl)) (fun _ _ _ h => h) (Or.inl ⟨by rfl, ?_⟩) ?_ ?_
    rotate_left
    ·intro w'
     go_simp
     with_reducible rfl
    rotate_left
    ·simp only [Act.put, sI, sZ, sS, i64_w]
     rfl
    refine pure_ (i := 2) (N := some 50) (v := ?_) (a' := ?_) #[true, true, true, false, false, false, false, false, false, false] rfl rfl (any_of HT_.out (by kernel_rfl)) (fun _ _ _ h => h) (Or.inl ⟨by rfl, ?_⟩) ?_ ?_
    rotate_left
    ·intro w'
     go_simp
     with_reducible rfl
    rotate_left
    ·simp only [Act.put, sI, sZ, sS, i64_w]
     rfl
    refine pure_ (i := 4) (N := some 52) (v := ?_) (a' := ?_) #[true, true, true, false, true, false, false, false, false, false] rfl rfl (any_of HT_.out (by kernel_rfl)) (fun _ _ _ h => h) (Or.inl ⟨by rfl, ?_⟩) ?_ ?_
    rotate_left
    ·intro w'
     go_simp
     with_reducible rfl
    rotate_left
    ·simp only [Act.put, sI, sZ, sS, i64_w]
     rfl
    refine pure_ (i := 8) (N := some 8) (v := ?_) (a' := ?_) #[true, true, true, false, true, false, false, false, true, false] rfl rfl (any_of HT_.out (by kernel_rfl)) (fun _ _ _ h => h) (Or.inl ⟨by rfl, ?_⟩) ?_ ?_
    rotate_left
    ·intro w'
     go_simp
     with_reducible rfl
    rotate_left
    ·simp only [Act.put, sI, sZ, sS, i64_w]
     rfl
    refine take_ (i := 3) (N := some 51) (v := ?_) (a' := ?_) #[true, true, true, true, true, false, false, false, true, false] rfl rfl (take_ofW HT_.out HW_.out (by kernel_rfl)) (fun _ _ _ h => h) (Or.inl ⟨by rfl, ?_⟩) hHeld ?_ ?_
    rotate_left
    ·rintro w' ⟨s0, s1, s2, s3, s4, s5⟩
     go_simp
     with_reducible rfl
    rotate_left
    ·simp only [Act.put, sI, sZ, sS, i64_w]
     rfl
    refine pure_ (i := 5) (N := some 53) (v := ?_) (a' := ?_) #[true, true, true, true, true, true, false, false, true, false] rfl rfl (any_of HT_.out (by kernel_rfl)) (fun _ _ _ h => h) (Or.inl ⟨by rfl, ?_⟩) ?_ ?_
    rotate_left
    ·intro w'
     go_simp
     with_reducible rfl
    rotate_left
    ·simp only [Act.put, sI, sZ, sS, i64_w]
     rfl
    refine pure_ (i := 6) (N := some 54) (v := ?_) (a' := ?_) #[true, true, true, true, true, true, true, false, true, false] rfl rfl (any_of HT_.out (by kernel_rfl)) (fun _ _ _ h => h) (Or.inl ⟨by rfl, ?_⟩) ?_ ?_
    rotate_left
    ·intro w'
     go_simp
     with_reducible rfl
    rotate_left
    ·simp only [Act.put, sI, sZ, sS, i64_w]
     rfl
    refine take_ (i := 7) (N := some 55) (v := ?_) (a' := ?_) #[true, true, true, true, true, true, true, true, true, false] rfl rfl (take_ofW HT_.out HW_.out (by kernel_rfl)) (fun _ _ _ h => h) (Or.inl ⟨by rfl, ?_⟩) hHeld ?_ ?_
    rotate_left
    ·rintro w' ⟨s0, s1, s2, s3, s4, s5⟩
     go_simp
     with_reducible rfl
    rotate_left
    ·simp only [Act.put, sI, sZ, sS, i64_w]
     rfl
    refine pure_ (i := 9) (N := some 9) (v := ?_) (a' := ?_) #[true, true, true, true, true, true, true, true, true, true] rfl rfl (any_of HT_.out (by kernel_rfl)) (fun _ _ _ h => h) (Or.inl ⟨by rfl, ?_⟩) ?_ ?_
    rotate_left
    ·intro w'
     go_simp
     with_reducible rfl
    rotate_left
    ·simp only [Act.put, sI, sZ, sS, i64_w]
     rfl
    refine done_ (done_of HT_.out (by kernel_rfl)) ?_
    try go_wp2
    go_loopg [8, 9] kj4 (fun kq v8 v9 w' => ∃ (x8_2 : Int) (x9_2 : Int), v8 = .int .i64 x8_2 ∧ v9 = .int .i64 x9_2 ∧ Aside0 (load_line_first.l1 kq l0 x7_4 x8_2 x9_2 l1_0 l1_1 = some (r1, r2)) ∧ Aside0 (kq ≤ kj4) ∧ Aside0 (w'.heap[gb415]? = some (.cells #[(.slice A1_0 l1_0.length c1_0), (.slice A1_1 l1_1.length c1_1)] 57 (0, 0))) ∧ Aside0 (Below w.heap.size w w'))
    case atStart => exact ⟨(0), ((rd_T40 ((rd_T51 l0 0).f0) x7_4).f0), (by first | rfl | (simp; done) | (simp [*]; done)), (by first | rfl | (simp; done) | (simp [*]; done)), H', ⟨Nat.le_refl _⟩, ⟨by (with_reducible repeat (first | refine kN ?_ _ | refine kD ?_ | refine kA ?_ _)); exact BK415.out⟩, ⟨by repeat (first | (with_reducible first | exact HB.out | apply bA | apply pN | apply bD | refine bE ?_ GE415.out) | exact HB.out)⟩⟩
    case round =>
     clear H'
     try clear c1
     try clear c2
     try clear p2
     try clear c3
     try clear c4
     try clear p4
     try clear q4
     try clear hx4
     try clear qi4
     try clear c11
     try clear c12
     try clear c12b0
     try clear c14
     try clear c15
     try clear c18
     try clear c18b0
     try clear c28
     try clear c28b0
     try clear c28b1
     try clear c29
     try clear c29b0
     try clear c29b1
     try clear c30
     try clear c30b0
     try clear c31
     try clear c31b0
     try clear hx422_0
     try clear hx422_1
     try clear hx422_2
     try clear hx423_0
     try clear hx423_1
     try clear hx423_2
     try clear hx424_0
     try clear hx429_0
     try clear hx429_1
     try clear hx429_2
     try clear hx430_0
     try clear hx430_1
     try clear hx430_2
     try clear hx431_0
     try clear hx431_1
     try clear hx431_2
     try clear p2
     try clear p4
     try clear p422
     try clear p423
     try clear p424
     try clear p429
     try clear p430
     try clear p431
     try clear q4
     try clear q422
     try clear q423
     try clear q424
     try clear q429
     try clear q430
     try clear q431
     obtain ⟨x8_2, x9_2, rfl, rfl, HA, HK2, BK415, HB⟩ := hrel
     cases gk with
     | zero => exact absurd HA.out (by simp [load_line_first.l1])
     | succ k2 =>
      have H := HA.out
      clear HA
      simp only [load_line_first.l1] at H
      by_cases c33 : x8_2 < x9_2
      ·rw [if_pos c33] at H
       have c33b0 : decide (x8_2 < x9_2) = true := dT c33
       clear c33
       replace H := oB H
       obtain ⟨⟨t434, t437⟩, A340, H⟩ := H
       replace H : ((nat_Mul.f k2 t434 l1_1).bind fun t441 => ((nat_Mul.f k2 l1_0 t437).bind fun t444 => ((nat_Cmp.f k2 t441 t444).bind fun t447 => (if t447 ≥ 0 then (load_line_first.l1 k2 l0 x7_4 x8_2 (wrap64 (Int.tdiv (wrap64 (x8_2 + x9_2)) 2)) l1_0 l1_1) else (load_line_first.l1 k2 l0 x7_4 (wrap64 ((wrap64 (Int.tdiv (wrap64 (x8_2 + x9_2)) 2)) + 1)) x9_2 l1_0 l1_1))))) = some (r1, r2) := H
       have A34 := aM A340; clear A340
       replace H := oB H
       obtain ⟨t441, A350, H⟩ := H
       replace H : ((nat_Mul.f k2 l1_0 t437).bind fun t444 => ((nat_Cmp.f k2 t441 t444).bind fun t447 => (if t447 ≥ 0 then (load_line_first.l1 k2 l0 x7_4 x8_2 (wrap64 (Int.tdiv (wrap64 (x8_2 + x9_2)) 2)) l1_0 l1_1) else (load_line_first.l1 k2 l0 x7_4 (wrap64 ((wrap64 (Int.tdiv (wrap64 (x8_2 + x9_2)) 2)) + 1)) x9_2 l1_0 l1_1)))) = some (r1, r2) := H
       have A35 := aM A350; clear A350
       replace H := oB H
       obtain ⟨t444, A360, H⟩ := H
       replace H : ((nat_Cmp.f k2 t441 t444).bind fun t447 => (if t447 ≥ 0 then (load_line_first.l1 k2 l0 x7_4 x8_2 (wrap64 (Int.tdiv (wrap64 (x8_2 + x9_2)) 2)) l1_0 l1_1) else (load_line_first.l1 k2 l0 x7_4 (wrap64 ((wrap64 (Int.tdiv (wrap64 (x8_2 + x9_2)) 2)) + 1)) x9_2 l1_0 l1_1))) = some (r1, r2) := H
       have A36 := aM A360; clear A360
       replace H := oB H
       obtain ⟨t447, A370, H⟩ := H
       replace H : (if t447 ≥ 0 then (load_line_first.l1 k2 l0 x7_4 x8_2 (wrap64 (Int.tdiv (wrap64 (x8_2 + x9_2)) 2)) l1_0 l1_1) else (load_line_first.l1 k2 l0 x7_4 (wrap64 ((wrap64 (Int.tdiv (wrap64 (x8_2 + x9_2)) 2)) + 1)) x9_2 l1_0 l1_1)) = some (r1, r2) := H
       have A37 := aM A370; clear A370
       by_cases c38 : t447 ≥ 0
       ·rw [if_pos c38] at H
        have c38b0 : decide (0 ≤ t447) = true := dT c38
        clear c38; have H' := aM H; clear H
        try go_wp2_with (first | ((with_reducible refine gC (f := 32) rfl ?_); refine gL (some 66) rfl rfl Try.func32 (by kernel_rfl) rfl #[.pointer (some ad429), .int .i64 x7_4, .int .i64 (wrap64 (Int.tdiv (wrap64 (x8_2 + x9_2)) 2))] rfl (by (try simp only [mA, mC, mN]); first | done | rfl | (simp only [lD, lT]; rfl)) ?_; (with_reducible refine (load_line_area.calls k2 _ c0 l0 x7_4 (wrap64 (Int.tdiv (wrap64 (x8_2 + x9_2)) 2)) t434 t437 _ ?side1 ?side2 A34.out).mono ?_); (case side1 => repeat (first | exact (Kd.C_below HR0.out HB.out) | (with_reducible refine cA ?_ _) | (with_reducible refine cN ?_ _) | (with_reducible refine cD ?_))); (case side2 => exact HC0.out); rintro e w39 ⟨v435, v438, rfl, ho0, ho1, hb⟩; refine ⟨_, rfl, ?_⟩; have n0_ := aM (Kd.R_lower ho0 (bZ (by repeat (first | (with_reducible first | exact HB.out | apply bA | apply pN | apply bD | refine bE ?_ GE415.out) | exact HB.out)))); have n1_ := aM (Kd.R_lower ho1 (bZ (by repeat (first | (with_reducible first | exact HB.out | apply bA | apply pN | apply bD | refine bE ?_ GE415.out) | exact HB.out)))); have n2_ := aM (blk_below (g := gb415) (o := .cells #[.slice A1_0 l1_0.length c1_0, .slice A1_1 l1_1.length c1_1] 57 (0, 0)) (by apply_rules [BK415.out, kN, kD, kA]) hb); have n3_ := aM (bS (by repeat (first | (with_reducible first | exact HB.out | apply bA | apply pN | apply bD | refine bE ?_ GE415.out) | exact HB.out)) hb); clear BK415 HB; have HO436 := n0_; have HO439 := n1_; have BK415 := n2_; have HB := n3_; clear n0_ n1_ n2_ n3_; (try clear hb); (try clear hb2); (try clear hk); (try clear hi); (try clear ho0); (try clear ho1)) | ((with_reducible refine gate_dst (N := 11) rfl ?_); refine box_event ?hg (N := 11) ?hd (cs := #[.slice none 0 0, .slice none 0 0]) (t := 57) ?hr ?_; (case hd => rfl); (case hg => rfl); (case hr => first | (go_simp; done) | (go_simp; rfl)); intro gb440 hg w40 hbox hb; have n0_ := aM (rO (by apply_rules [HO436.out, rN, rD]) hb); have n1_ := aM (rO (by apply_rules [HO439.out, rN, rD]) hb); have n2_ := aM (blk_below (g := gb415) (o := .cells #[.slice A1_0 l1_0.length c1_0, .slice A1_1 l1_1.length c1_1] 57 (0, 0)) (by apply_rules [BK415.out, kN, kD, kA]) hb); have n3_ := aM (bS (by repeat (first | (with_reducible first | exact HB.out | apply bA | apply pN | apply bD | refine bE ?_ GE415.out) | exact HB.out)) hb); have n4_ := aM (hbox); have n5_ := aM ((by rw [hg]; exact (bZ (by repeat (first | (with_reducible first | exact HB.out | apply bA | apply pN | apply bD | refine bE ?_ GE415.out) | exact HB.out))) : w.heap.size ≤ gb440)); have n6_ := aM ((by rw [hg]; exact (bZ (by repeat (first | (with_reducible first | exact HB.out | apply bA | apply pN | apply bD | refine bE ?_ GE415.out) | exact HB.out))) : w.heap.size ≤ gb440)); have n7_ := aM ((by rw [hg]; exact Nat.ne_of_lt (blk_lt (g := gb415) (o := .cells #[.slice A1_0 l1_0.length c1_0, .slice A1_1 l1_1.length c1_1] 57 (0, 0)) (by apply_rules [BK415.out, kN, kD, kA])) : gb415 ≠ gb440)); have n8_ := aM ((by rw [hg]; exact Nat.ne_of_gt (blk_lt (g := gb415) (o := .cells #[.slice A1_0 l1_0.length c1_0, .slice A1_1 l1_1.length c1_1] 57 (0, 0)) (by apply_rules [BK415.out, kN, kD, kA])) : gb440 ≠ gb415)); clear HO436 HO439 BK415 HB; have HO436 := n0_; have HO439 := n1_; have BK415 := n2_; have HB := n3_; have BK440 := n4_; have GW440 := n5_; have GE440 := n6_; have NB415_440 := n7_; have NB440_415 := n8_; clear n0_ n1_ n2_ n3_ n4_ n5_ n6_ n7_ n8_ hb hbox hg; obtain ⟨Ao41, co41, eo41⟩ := Kd.R_slice HO436.out; subst eo41; have hnb42 := NB440_415.out; have hnc42 := NB415_440.out; have hcz43_0 : w40.cell? ⟨gb440, 0, none⟩ = some (.slice none 0 0) := (kC BK440.out 0).trans rfl; have hcz43_1 : w40.cell? ⟨gb440, 1, none⟩ = some (.slice none 0 0) := (kC BK440.out 1).trans rfl; have hfz43_0 := blk_frozen BK440.out 0; have hfz43_1 := blk_frozen BK440.out 1; obtain ⟨Ao44, co44, eo44⟩ := Kd.R_slice HO439.out; subst eo44))
        have n0_ : Aside0 (Kd.R (Kd.int .u64) 65 ((w40.setCell ⟨gb440, 0, none⟩ (.slice Ao41 t434.length co41)).setCell ⟨gb440, 1, none⟩ (.slice Ao44 t437.length co44)) w.heap.size (fun k_ => some k_ ≠ (.slice Ao44 t437.length co44 : Value).ownBlock) (.slice Ao41 t434.length co41) t434) := ⟨by (with_reducible repeat (first | apply rN | apply rD)); exact Kd.R_mono (Kd.R_far (p := ⟨gb440, 1, none⟩) (Kd.R_far (p := ⟨gb440, 0, none⟩) (Kd.R_types HO436.out BK440.out (by decide)) (fun _ hk => hk.2) (.slice Ao41 t434.length co41)) (fun _ hk => hk.2) (.slice Ao44 t437.length co44)) (fun _ hk => hk.1)⟩
        have n1_ : Aside0 (Kd.R (Kd.int .u64) 65 ((w40.setCell ⟨gb440, 0, none⟩ (.slice Ao41 t434.length co41)).setCell ⟨gb440, 1, none⟩ (.slice Ao44 t437.length co44)) w.heap.size (fun k_ => some k_ ≠ (.slice Ao41 t434.length co41 : Value).ownBlock) (.slice Ao44 t437.length co44) t437) := ⟨by (with_reducible repeat (first | apply rN | apply rD)); exact Kd.R_mono (Kd.R_far (p := ⟨gb440, 1, none⟩) (Kd.R_far (p := ⟨gb440, 0, none⟩) (Kd.R_types HO439.out BK440.out (by decide)) (fun _ hk => hk.2) (.slice Ao41 t434.length co41)) (fun _ hk => hk.2) (.slice Ao44 t437.length co44)) (fun _ hk => hk.1)⟩
        have n2_ : Aside0 (((w40.setCell ⟨gb440, 0, none⟩ (.slice Ao41 t434.length co41)).setCell ⟨gb440, 1, none⟩ (.slice Ao44 t437.length co44)).heap[gb415]? = some (.cells #[.slice A1_0 l1_0.length c1_0, .slice A1_1 l1_1.length c1_1] 57 (0, 0))) := ⟨by (with_reducible repeat (first | refine kN ?_ _ | refine kD ?_ | refine kA ?_ _)); refine blk_far ?_ NB415_440.out _; (with_reducible repeat (first | refine kN ?_ _ | refine kD ?_ | refine kA ?_ _)); refine blk_far ?_ NB415_440.out _; (with_reducible repeat (first | refine kN ?_ _ | refine kD ?_ | refine kA ?_ _)); exact BK415.out⟩
        have n3_ : Aside0 (((w40.setCell ⟨gb440, 0, none⟩ (.slice Ao41 t434.length co41)).setCell ⟨gb440, 1, none⟩ (.slice Ao44 t437.length co44)).heap[gb440]? = some (.cells #[.slice Ao41 t434.length co41, .slice Ao44 t437.length co44] 57 (0, 0))) := ⟨by (with_reducible repeat (first | refine kN ?_ _ | refine kD ?_ | refine kA ?_ _)); refine blk_put (cs := #[.slice Ao41 t434.length co41, .slice none 0 0]) ?_ 1 _ rfl; (with_reducible repeat (first | refine kN ?_ _ | refine kD ?_ | refine kA ?_ _)); refine blk_put (cs := #[.slice none 0 0, .slice none 0 0]) ?_ 0 _ rfl; (with_reducible repeat (first | refine kN ?_ _ | refine kD ?_ | refine kA ?_ _)); exact BK440.out⟩
        have n4_ : Aside0 (Below w.heap.size w ((w40.setCell ⟨gb440, 0, none⟩ (.slice Ao41 t434.length co41)).setCell ⟨gb440, 1, none⟩ (.slice Ao44 t437.length co44))) := ⟨by repeat (first | (with_reducible first | exact HB.out | apply bA | apply pN | apply bD | refine bE ?_ GE415.out | refine bE ?_ GE440.out) | exact HB.out)⟩
        (try clear HO436)
        (try clear HO439)
        (try clear BK415)
        (try clear BK440)
        (try clear HB)
        generalize ((w40.setCell ⟨gb440, 0, none⟩ (.slice Ao41 t434.length co41)).setCell ⟨gb440, 1, none⟩ (.slice Ao44 t437.length co44)) = w45 at n0_ n1_ n2_ n3_ n4_ ⊢
        have HO436 := n0_; have HO439 := n1_; have BK415 := n2_; have BK440 := n3_; have HB := n4_; clear n0_ n1_ n2_ n3_ n4_; have n0_ := aM (rD HO436.out); have n1_ := aM (rD HO439.out); have n2_ := aM (kD BK415.out); have n3_ := aM (kD BK440.out); have n4_ := aM (bD HB.out); clear HO436 HO439 BK415 BK440 HB; have HO436 := n0_; have HO439 := n1_; have BK415 := n2_; have BK440 := n3_; have HB := n4_; clear n0_ n1_ n2_ n3_ n4_
        refine start_ (n := 12) (S := fun w' => w'.cell? ⟨gb440, 0, none⟩ = some (.slice Ao41 t434.length co41) ∧ w'.cell? ⟨gb440, 1, none⟩ = some (.slice Ao44 t437.length co44) ∧ w'.cell? ⟨gb415, 0, none⟩ = some (.slice A1_0 l1_0.length c1_0) ∧ w'.cell? ⟨gb415, 1, none⟩ = some (.slice A1_1 l1_1.length c1_1)) (ds := []) #[false, false, false, false, false, false, false, false, false, false, false, false] (by kernel_rfl) rfl rfl ⟨(kC BK440.out 0).trans rfl, (kC BK440.out 1).trans rfl, (kC BK415.out 0).trans rfl, (kC BK415.out 1).trans rfl⟩ (fun hHeld => ?_); refine with_tabW load_line_first.tab11 load_line_first.bits11 (fun HT_ HW_ => ?_)
        generalize w45.drew = w46 at HO436 HO439 BK415 BK440 HB hHeld ⊢
        refine pure_ (i := 0) (N := some 67) (v := ?_) (a' := ?_) #[true, false, false, false, false, false, false, false, false, false, false, false] rfl rfl (any_of HT_.out (by kernel_rfl)) (fun _ _ _ h => h) (Or.inl ⟨by rfl, ?_⟩) ?_ ?_
        rotate_left
        ·intro w'
         go_simp
         with_reducible rfl
        rotate_left
        ·simp only [Act.put, sI, sZ, sS, i64_w]
         rfl
        refine pure_ (i := 2) (N := some 69) (v := ?_) (a' := ?_) #[true, false, true, false, false, false, false, false, false, false, false, false] rfl rfl (any_of HT_.out (by kernel_rfl)) (fun _ _ _ h => h) (Or.inl ⟨by rfl, ?_⟩) ?_ ?_
        rotate_left
        ·intro w'
         go_simp
         with_reducible rfl
        rotate_left
        ·simp only [Act.put, sI, sZ, sS, i64_w]
         rfl
        refine pure_ (i := 5) (N := some 72) (v := ?_) (a' := ?_) #[true, false, true, false, false, true, false, false, false, false, false, false] rfl rfl (any_of HT_.out (by kernel_rfl)) (fun _ _ _ h => h) (Or.inl ⟨by rfl, ?_⟩) ?_ ?_
        rotate_left
        ·intro w'
         go_simp
         with_reducible rfl
        rotate_left
        ·simp only [Act.put, sI, sZ, sS, i64_w]
         rfl
        refine pure_ (i := 7) (N := some 74) (v := ?_) (a' := ?_) #[true, false, true, false, false, true, false, true, false, false, false, false] rfl rfl (any_of HT_.out (by kernel_rfl)) (fun _ _ _ h => h) (Or.inl ⟨by rfl, ?_⟩) ?_ ?_
        rotate_left
        ·intro w'
         go_simp
         with_reducible rfl
        rotate_left
        ·simp only [Act.put, sI, sZ, sS, i64_w]
         rfl
        refine take_ (i := 1) (N := some 68) (v := ?_) (a' := ?_) #[true, true, true, false, false, true, false, true, false, false, false, false] rfl rfl (take_ofW HT_.out HW_.out (by kernel_rfl)) (fun _ _ _ h => h) (Or.inl ⟨by rfl, ?_⟩) hHeld ?_ ?_
        rotate_left
        ·rintro w' ⟨s0, s1, s2, s3⟩
         go_simp
         with_reducible rfl
        rotate_left
        ·simp only [Act.put, sI, sZ, sS, i64_w]
         rfl
        refine take_ (i := 3) (N := some 70) (v := ?_) (a' := ?_) #[true, true, true, true, false, true, false, true, false, false, false, false] rfl rfl (take_ofW HT_.out HW_.out (by kernel_rfl)) (fun _ _ _ h => h) (Or.inl ⟨by rfl, ?_⟩) hHeld ?_ ?_
        rotate_left
        ·rintro w' ⟨s0, s1, s2, s3⟩
         go_simp
         with_reducible rfl
        rotate_left
        ·simp only [Act.put, sI, sZ, sS, i64_w]
         rfl
        refine take_ (i := 6) (N := some 73) (v := ?_) (a' := ?_) #[true, true, true, true, false, true, true, true, false, false, false, false] rfl rfl (take_ofW HT_.out HW_.out (by kernel_rfl)) (fun _ _ _ h => h) (Or.inl ⟨by rfl, ?_⟩) hHeld ?_ ?_
        rotate_left
        ·rintro w' ⟨s0, s1, s2, s3⟩
         go_simp
         with_reducible rfl
        rotate_left
        ·simp only [Act.put, sI, sZ, sS, i64_w]
         rfl
        refine take_ (i := 8) (N := some 75) (v := ?_) (a' := ?_) #[true, true, true, true, false, true, true, true, true, false, false, false] rfl rfl (take_ofW HT_.out HW_.out (by kernel_rfl)) (fun _ _ _ h => h) (Or.inl ⟨by rfl, ?_⟩) hHeld ?_ ?_
        rotate_left
        ·rintro w' ⟨s0, s1, s2, s3⟩
         go_simp
         with_reducible rfl
        rotate_left
        ·simp only [Act.put, sI, sZ, sS, i64_w]
         rfl
        refine one_ (i := 4) (N := some 71) #[true, true, true, true, true, true, true, true, true, false, false, false] rfl rfl (one_of HT_.out (by kernel_rfl)) (by decide) (fun K hK => ?_)
        refine goes_ Try.func30 (by kernel_rfl) rfl #[.slice Ao41 t434.length co41, .slice A1_1 l1_1.length c1_1] (by rfl) rfl rfl (by (try simp only [mA, mC, mN]); first | done | rfl | (simp only [lD, lT]; rfl)) ?_
        with_reducible refine (nat_Mul.calls k2 _ _ t434 _ _ l1_1 t441 _ ?side1 ?side2 ?side3 ?side4 A35.out).mono ?_
        (case side1 => repeat (first | exact (rS HO436.out).2.2 | (with_reducible refine cA ?_ _) | (with_reducible refine cN ?_ _) | (with_reducible refine cD ?_)))
        (case side2 => exact (rS HO436.out).2.1)
        (case side3 => repeat (first | exact (Kd.C_below HR1_1.out HB.out) | (with_reducible refine cA ?_ _) | (with_reducible refine cN ?_ _) | (with_reducible refine cD ?_)))
        (case side4 => exact HC1_1.out)
        rintro e w47 ⟨v442, rfl, ho0, hb⟩
        refine ⟨_, rfl, ?_⟩
        have n0_ := aM (rE (by apply_rules [HO436.out, rN, rD]) (rB ho0) hb); have n1_ := aM (rE (by apply_rules [HO439.out, rN, rD]) (rB ho0) hb); have n2_ := aM (Kd.R_lower (rW (rW ho0 (rL (by apply_rules [HO436.out, rN, rD]))) (rL (by apply_rules [HO439.out, rN, rD]))) (bZ (by repeat (first | (with_reducible first | exact HB.out | apply bA | apply pN | apply bD | refine bE ?_ GE415.out | refine bE ?_ GE440.out) | exact HB.out)))); have n3_ := aM (blk_below (g := gb415) (o := .cells #[.slice A1_0 l1_0.length c1_0, .slice A1_1 l1_1.length c1_1] 57 (0, 0)) (by apply_rules [BK415.out, kN, kD, kA]) hb); have n4_ := aM (blk_below (g := gb440) (o := .cells #[.slice Ao41 t434.length co41, .slice Ao44 t437.length co44] 57 (0, 0)) (by apply_rules [BK440.out, kN, kD, kA]) hb); have n5_ := aM (bS (by repeat (first | (with_reducible first | exact HB.out | apply bA | apply pN | apply bD | refine bE ?_ GE415.out | refine bE ?_ GE440.out) | exact HB.out)) hb); clear HO436 HO439 BK415 BK440 HB; have HO436 := n0_; have HO439 := n1_; have HO443 := n2_; have BK415 := n3_; have BK440 := n4_; have HB := n5_; clear n0_ n1_ n2_ n3_ n4_ n5_
        (try clear hb)
        (try clear hb2)
        (try clear hk)
        (try clear hi)
        (try clear ho0)
        refine hK.out _ _ ⟨(kC BK440.out 0).trans rfl, (kC BK440.out 1).trans rfl, (kC BK415.out 0).trans rfl, (kC BK415.out 1).trans rfl⟩ (fun hHeld => ?_)
        clear hK K
        refine norm_ (a' := ?_) ?_ ?_
        rotate_left
        ·show Act.put _ (some 71) _ = _
         simp only [Act.put, sI, sZ, sS, i64_w]
         rfl
        refine one_ (i := 9) (N := some 76) #[true, true, true, true, true, true, true, true, true, true, false, false] rfl rfl (one_of HT_.out (by kernel_rfl)) (by decide) (fun K hK => ?_)
        refine goes_ Try.func30 (by kernel_rfl) rfl #[.slice A1_0 l1_0.length c1_0, .slice Ao44 t437.length co44] (by rfl) rfl rfl (by (try simp only [mA, mC, mN]); first | done | rfl | (simp only [lD, lT]; rfl)) ?_
        with_reducible refine (nat_Mul.calls k2 _ _ l1_0 _ _ t437 t444 _ ?side1 ?side2 ?side3 ?side4 A36.out).mono ?_
        (case side1 => repeat (first | exact (Kd.C_below HR1_0.out HB.out) | (with_reducible refine cA ?_ _) | (with_reducible refine cN ?_ _) | (with_reducible refine cD ?_)))
        (case side2 => exact HC1_0.out)
        (case side3 => repeat (first | exact (rS HO439.out).2.2 | (with_reducible refine cA ?_ _) | (with_reducible refine cN ?_ _) | (with_reducible refine cD ?_)))
        (case side4 => exact (rS HO439.out).2.1)
        rintro e w48 ⟨v445, rfl, ho0, hb⟩
        refine ⟨_, rfl, ?_⟩
        have n0_ := aM (rE (by apply_rules [HO436.out, rN, rD]) (rB ho0) hb); have n1_ := aM (rE (by apply_rules [HO439.out, rN, rD]) (rB ho0) hb); have n2_ := aM (rE (by apply_rules [HO443.out, rN, rD]) (rB ho0) hb); have n3_ := aM (Kd.R_lower (rW (rW (rW ho0 (rL (by apply_rules [HO436.out, rN, rD]))) (rL (by apply_rules [HO439.out, rN, rD]))) (rL (by apply_rules [HO443.out, rN, rD]))) (bZ (by repeat (first | (with_reducible first | exact HB.out | apply bA | apply pN | apply bD | refine bE ?_ GE415.out | refine bE ?_ GE440.out) | exact HB.out)))); have n4_ := aM (blk_below (g := gb415) (o := .cells #[.slice A1_0 l1_0.length c1_0, .slice A1_1 l1_1.length c1_1] 57 (0, 0)) (by apply_rules [BK415.out, kN, kD, kA]) hb); have n5_ := aM (blk_below (g := gb440) (o := .cells #[.slice Ao41 t434.length co41, .slice Ao44 t437.length co44] 57 (0, 0)) (by apply_rules [BK440.out, kN, kD, kA]) hb); have n6_ := aM (bS (by repeat (first | (with_reducible first | exact HB.out | apply bA | apply pN | apply bD | refine bE ?_ GE415.out | refine bE ?_ GE440.out) | exact HB.out)) hb); clear HO436 HO439 HO443 BK415 BK440 HB; have HO436 := n0_; have HO439 := n1_; have HO443 := n2_; have HO446 := n3_; have BK415 := n4_; have BK440 := n5_; have HB := n6_; clear n0_ n1_ n2_ n3_ n4_ n5_ n6_
        (try clear hb)
        (try clear hb2)
        (try clear hk)
        (try clear hi)
        (try clear ho0)
        obtain ⟨Ao49, co49, eo49⟩ := Kd.R_slice HO443.out
        (first | subst eo49 | (injection eo49 with f1_ f2_ f3_; have f4_ := f1_.symm; have f5_ := f3_.symm; clear f1_ f2_ f3_; subst f4_; subst f5_))
        obtain ⟨Ao50, co50, eo50⟩ := Kd.R_slice HO446.out
        (first | subst eo50 | (injection eo50 with f1_ f2_ f3_; have f4_ := f1_.symm; have f5_ := f3_.symm; clear f1_ f2_ f3_; subst f4_; subst f5_))
        refine hK.out _ _ ⟨(kC BK440.out 0).trans rfl, (kC BK440.out 1).trans rfl, (kC BK415.out 0).trans rfl, (kC BK415.out 1).trans rfl⟩ (fun hHeld => ?_)
        clear hK K
        refine norm_ (a' := ?_) ?_ ?_
        rotate_left
        ·show Act.put _ (some 76) _ = _
         simp only [Act.put, sI, sZ, sS, i64_w]
         rfl
        refine one_ (i := 10) (N := some 77) #[true, true, true, true, true, true, true, true, true, true, true, false] rfl rfl (one_of HT_.out (by kernel_rfl)) (by decide) (fun K hK => ?_)
        refine goes_ Try.func33 (by kernel_rfl) rfl #[.slice Ao49 t441.length co49, .slice Ao50 t444.length co50] (by rfl) rfl rfl (by (try simp only [mA, mC, mN]); first | done | rfl | (simp only [lD, lT]; rfl)) ?_
        with_reducible refine (nat_Cmp.calls k2 _ _ t441 _ _ t444 t447 _ ?side1 ?side2 ?side3 ?side4 A37.out).mono ?_
        (case side1 => repeat (first | exact (rS HO443.out).2.2 | (with_reducible refine cA ?_ _) | (with_reducible refine cN ?_ _) | (with_reducible refine cD ?_)))
        (case side2 => exact (rS HO443.out).2.1)
        (case side3 => repeat (first | exact (rS HO446.out).2.2 | (with_reducible refine cA ?_ _) | (with_reducible refine cN ?_ _) | (with_reducible refine cD ?_)))
        (case side4 => exact (rS HO446.out).2.1)
        rintro e w' ⟨rfl, ⟨nd, rfl⟩⟩
        refine ⟨_, rfl, ?_⟩
        refine hK.out _ _ ⟨(kC BK440.out 0).trans rfl, (kC BK440.out 1).trans rfl, (kC BK415.out 0).trans rfl, (kC BK415.out 1).trans rfl⟩ (fun hHeld => ?_)
        clear hK K
        refine norm_ (a' := ?_) ?_ ?_
        rotate_left
        ·show Act.put _ (some 77) _ = _
         simp only [Act.put, sI, sZ, sS, i64_w]
         rfl
        refine pure_ (i := 11) (N := some 78) (v := ?_) (a' := ?_) #[true, true, true, true, true, true, true, true, true, true, true, true] rfl rfl (any_of HT_.out (by kernel_rfl)) (fun _ _ _ h => h) (Or.inl ⟨by rfl, ?_⟩) ?_ ?_
        rotate_left
        ·intro w'
         go_simp
         with_reducible rfl
        rotate_left
        ·simp only [Act.put, sI, sZ, sS, i64_w]
         rfl
        refine done_ (done_of HT_.out (by kernel_rfl)) ?_
        try go_wp2
        go_roundg k2
        case measure => have := HJ4.out; have := HK2.out; omega
        case rel => exact ⟨(x8_2), (wrap64 (Int.tdiv (wrap64 (x8_2 + x9_2)) 2)), (by first | rfl | (simp; done) | (simp [*]; done)), (by first | rfl | (simp; done) | (simp [*]; done)), H', ⟨by have := HJ4.out; have := HK2.out; omega⟩, ⟨by (with_reducible repeat (first | refine kN ?_ _ | refine kD ?_ | refine kA ?_ _)); exact BK415.out⟩, ⟨by repeat (first | (with_reducible first | exact HB.out | apply bA | apply pN | apply bD | refine bE ?_ GE415.out | refine bE ?_ GE440.out) | exact HB.out)⟩⟩
       ·rw [if_neg c38] at H
        have c38b0 : decide (0 ≤ t447) = false := decide_eq_false c38
        clear c38; have H' := aM H; clear H
        try go_wp2_with (first | ((with_reducible refine gC (f := 32) rfl ?_); refine gL (some 66) rfl rfl Try.func32 (by kernel_rfl) rfl #[.pointer (some ad429), .int .i64 x7_4, .int .i64 (wrap64 (Int.tdiv (wrap64 (x8_2 + x9_2)) 2))] rfl (by (try simp only [mA, mC, mN]); first | done | rfl | (simp only [lD, lT]; rfl)) ?_; (with_reducible refine (load_line_area.calls k2 _ c0 l0 x7_4 (wrap64 (Int.tdiv (wrap64 (x8_2 + x9_2)) 2)) t434 t437 _ ?side1 ?side2 A34.out).mono ?_); (case side1 => repeat (first | exact (Kd.C_below HR0.out HB.out) | (with_reducible refine cA ?_ _) | (with_reducible refine cN ?_ _) | (with_reducible refine cD ?_))); (case side2 => exact HC0.out); rintro e w51 ⟨v435, v438, rfl, ho0, ho1, hb⟩; refine ⟨_, rfl, ?_⟩; have n0_ := aM (Kd.R_lower ho0 (bZ (by repeat (first | (with_reducible first | exact HB.out | apply bA | apply pN | apply bD | refine bE ?_ GE415.out) | exact HB.out)))); have n1_ := aM (Kd.R_lower ho1 (bZ (by repeat (first | (with_reducible first | exact HB.out | apply bA | apply pN | apply bD | refine bE ?_ GE415.out) | exact HB.out)))); have n2_ := aM (blk_below (g := gb415) (o := .cells #[.slice A1_0 l1_0.length c1_0, .slice A1_1 l1_1.length c1_1] 57 (0, 0)) (by apply_rules [BK415.out, kN, kD, kA]) hb); have n3_ := aM (bS (by repeat (first | (with_reducible first | exact HB.out | apply bA | apply pN | apply bD | refine bE ?_ GE415.out) | exact HB.out)) hb); clear BK415 HB; have HO436 := n0_; have HO439 := n1_; have BK415 := n2_; have HB := n3_; clear n0_ n1_ n2_ n3_; (try clear hb); (try clear hb2); (try clear hk); (try clear hi); (try clear ho0); (try clear ho1)) | ((with_reducible refine gate_dst (N := 11) rfl ?_); refine box_event ?hg (N := 11) ?hd (cs := #[.slice none 0 0, .slice none 0 0]) (t := 57) ?hr ?_; (case hd => rfl); (case hg => rfl); (case hr => first | (go_simp; done) | (go_simp; rfl)); intro gb440 hg w52 hbox hb; have n0_ := aM (rO (by apply_rules [HO436.out, rN, rD]) hb); have n1_ := aM (rO (by apply_rules [HO439.out, rN, rD]) hb); have n2_ := aM (blk_below (g := gb415) (o := .cells #[.slice A1_0 l1_0.length c1_0, .slice A1_1 l1_1.length c1_1] 57 (0, 0)) (by apply_rules [BK415.out, kN, kD, kA]) hb); have n3_ := aM (bS (by repeat (first | (with_reducible first | exact HB.out | apply bA | apply pN | apply bD | refine bE ?_ GE415.out) | exact HB.out)) hb); have n4_ := aM (hbox); have n5_ := aM ((by rw [hg]; exact (bZ (by repeat (first | (with_reducible first | exact HB.out | apply bA | apply pN | apply bD | refine bE ?_ GE415.out) | exact HB.out))) : w.heap.size ≤ gb440)); have n6_ := aM ((by rw [hg]; exact (bZ (by repeat (first | (with_reducible first | exact HB.out | apply bA | apply pN | apply bD | refine bE ?_ GE415.out) | exact HB.out))) : w.heap.size ≤ gb440)); have n7_ := aM ((by rw [hg]; exact Nat.ne_of_lt (blk_lt (g := gb415) (o := .cells #[.slice A1_0 l1_0.length c1_0, .slice A1_1 l1_1.length c1_1] 57 (0, 0)) (by apply_rules [BK415.out, kN, kD, kA])) : gb415 ≠ gb440)); have n8_ := aM ((by rw [hg]; exact Nat.ne_of_gt (blk_lt (g := gb415) (o := .cells #[.slice A1_0 l1_0.length c1_0, .slice A1_1 l1_1.length c1_1] 57 (0, 0)) (by apply_rules [BK415.out, kN, kD, kA])) : gb440 ≠ gb415)); clear HO436 HO439 BK415 HB; have HO436 := n0_; have HO439 := n1_; have BK415 := n2_; have HB := n3_; have BK440 := n4_; have GW440 := n5_; have GE440 := n6_; have NB415_440 := n7_; have NB440_415 := n8_; clear n0_ n1_ n2_ n3_ n4_ n5_ n6_ n7_ n8_ hb hbox hg; obtain ⟨Ao53, co53, eo53⟩ := Kd.R_slice HO436.out; subst eo53; have hnb54 := NB440_415.out; have hnc54 := NB415_440.out; have hcz55_0 : w52.cell? ⟨gb440, 0, none⟩ = some (.slice none 0 0) := (kC BK440.out 0).trans rfl; have hcz55_1 : w52.cell? ⟨gb440, 1, none⟩ = some (.slice none 0 0) := (kC BK440.out 1).trans rfl; have hfz55_0 := blk_frozen BK440.out 0; have hfz55_1 := blk_frozen BK440.out 1; obtain ⟨Ao56, co56, eo56⟩ := Kd.R_slice HO439.out; subst eo56))
        have n0_ : Aside0 (Kd.R (Kd.int .u64) 65 ((w52.setCell ⟨gb440, 0, none⟩ (.slice Ao53 t434.length co53)).setCell ⟨gb440, 1, none⟩ (.slice Ao56 t437.length co56)) w.heap.size (fun k_ => some k_ ≠ (.slice Ao56 t437.length co56 : Value).ownBlock) (.slice Ao53 t434.length co53) t434) := ⟨by (with_reducible repeat (first | apply rN | apply rD)); exact Kd.R_mono (Kd.R_far (p := ⟨gb440, 1, none⟩) (Kd.R_far (p := ⟨gb440, 0, none⟩) (Kd.R_types HO436.out BK440.out (by decide)) (fun _ hk => hk.2) (.slice Ao53 t434.length co53)) (fun _ hk => hk.2) (.slice Ao56 t437.length co56)) (fun _ hk => hk.1)⟩
        have n1_ : Aside0 (Kd.R (Kd.int .u64) 65 ((w52.setCell ⟨gb440, 0, none⟩ (.slice Ao53 t434.length co53)).setCell ⟨gb440, 1, none⟩ (.slice Ao56 t437.length co56)) w.heap.size (fun k_ => some k_ ≠ (.slice Ao53 t434.length co53 : Value).ownBlock) (.slice Ao56 t437.length co56) t437) := ⟨by (with_reducible repeat (first | apply rN | apply rD)); exact Kd.R_mono (Kd.R_far (p := ⟨gb440, 1, none⟩) (Kd.R_far (p := ⟨gb440, 0, none⟩) (Kd.R_types HO439.out BK440.out (by decide)) (fun _ hk => hk.2) (.slice Ao53 t434.length co53)) (fun _ hk => hk.2) (.slice Ao56 t437.length co56)) (fun _ hk => hk.1)⟩
        have n2_ : Aside0 (((w52.setCell ⟨gb440, 0, none⟩ (.slice Ao53 t434.length co53)).setCell ⟨gb440, 1, none⟩ (.slice Ao56 t437.length co56)).heap[gb415]? = some (.cells #[.slice A1_0 l1_0.length c1_0, .slice A1_1 l1_1.length c1_1] 57 (0, 0))) := ⟨by (with_reducible repeat (first | refine kN ?_ _ | refine kD ?_ | refine kA ?_ _)); refine blk_far ?_ NB415_440.out _; (with_reducible repeat (first | refine kN ?_ _ | refine kD ?_ | refine kA ?_ _)); refine blk_far ?_ NB415_440.out _; (with_reducible repeat (first | refine kN ?_ _ | refine kD ?_ | refine kA ?_ _)); exact BK415.out⟩
        have n3_ : Aside0 (((w52.setCell ⟨gb440, 0, none⟩ (.slice Ao53 t434.length co53)).setCell ⟨gb440, 1, none⟩ (.slice Ao56 t437.length co56)).heap[gb440]? = some (.cells #[.slice Ao53 t434.length co53, .slice Ao56 t437.length co56] 57 (0, 0))) := ⟨by (with_reducible repeat (first | refine kN ?_ _ | refine kD ?_ | refine kA ?_ _)); refine blk_put (cs := #[.slice Ao53 t434.length co53, .slice none 0 0]) ?_ 1 _ rfl; (with_reducible repeat (first | refine kN ?_ _ | refine kD ?_ | refine kA ?_ _)); refine blk_put (cs := #[.slice none 0 0, .slice none 0 0]) ?_ 0 _ rfl; (with_reducible repeat (first | refine kN ?_ _ | refine kD ?_ | refine kA ?_ _)); exact BK440.out⟩
        have n4_ : Aside0 (Below w.heap.size w ((w52.setCell ⟨gb440, 0, none⟩ (.slice Ao53 t434.length co53)).setCell ⟨gb440, 1, none⟩ (.slice Ao56 t437.length co56))) := ⟨by repeat (first | (with_reducible first | exact HB.out | apply bA | apply pN | apply bD | refine bE ?_ GE415.out | refine bE ?_ GE440.out) | exact HB.out)⟩
        (try clear HO436)
        (try clear HO439)
        (try clear BK415)
        (try clear BK440)
        (try clear HB)
        generalize ((w52.setCell ⟨gb440, 0, none⟩ (.slice Ao53 t434.length co53)).setCell ⟨gb440, 1, none⟩ (.slice Ao56 t437.length co56)) = w57 at n0_ n1_ n2_ n3_ n4_ ⊢
        have HO436 := n0_; have HO439 := n1_; have BK415 := n2_; have BK440 := n3_; have HB := n4_; clear n0_ n1_ n2_ n3_ n4_; have n0_ := aM (rD HO436.out); have n1_ := aM (rD HO439.out); have n2_ := aM (kD BK415.out); have n3_ := aM (kD BK440.out); have n4_ := aM (bD HB.out); clear HO436 HO439 BK415 BK440 HB; have HO436 := n0_; have HO439 := n1_; have BK415 := n2_; have BK440 := n3_; have HB := n4_; clear n0_ n1_ n2_ n3_ n4_
        refine start_ (n := 12) (S := fun w' => w'.cell? ⟨gb440, 0, none⟩ = some (.slice Ao53 t434.length co53) ∧ w'.cell? ⟨gb440, 1, none⟩ = some (.slice Ao56 t437.length co56) ∧ w'.cell? ⟨gb415, 0, none⟩ = some (.slice A1_0 l1_0.length c1_0) ∧ w'.cell? ⟨gb415, 1, none⟩ = some (.slice A1_1 l1_1.length c1_1)) (ds := []) #[false, false, false, false, false, false, false, false, false, false, false, false] (by kernel_rfl) rfl rfl ⟨(kC BK440.out 0).trans rfl, (kC BK440.out 1).trans rfl, (kC BK415.out 0).trans rfl, (kC BK415.out 1).trans rfl⟩ (fun hHeld => ?_); refine with_tabW load_line_first.tab11 load_line_first.bits11 (fun HT_ HW_ => ?_)
        generalize w57.drew = w58 at HO436 HO439 BK415 BK440 HB hHeld ⊢
        refine pure_ (i := 0) (N := some 67) (v := ?_) (a' := ?_) #[true, false, false, false, false, false, false, false, false, false, false, false] rfl rfl (any_of HT_.out (by kernel_rfl)) (fun _ _ _ h => h) (Or.inl ⟨by rfl, ?_⟩) ?_ ?_
        rotate_left
        ·intro w'
         go_simp
         with_reducible rfl
        rotate_left
        ·simp only [Act.put, sI, sZ, sS, i64_w]
         rfl
        refine pure_ (i := 2) (N := some 69) (v := ?_) (a' := ?_) #[true, false, true, false, false, false, false, false, false, false, false, false] rfl rfl (any_of HT_.out (by kernel_rfl)) (fun _ _ _ h => h) (Or.inl ⟨by rfl, ?_⟩) ?_ ?_
        rotate_left
        ·intro w'
         go_simp
         with_reducible rfl
        rotate_left
        ·simp only [Act.put, sI, sZ, sS, i64_w]
         rfl
        refine pure_ (i := 5) (N := some 72) (v := ?_) (a' := ?_) #[true, false, true, false, false, true, false, false, false, false, false, false] rfl rfl (any_of HT_.out (by kernel_rfl)) (fun _ _ _ h => h) (Or.inl ⟨by rfl, ?_⟩) ?_ ?_
        rotate_left
        ·intro w'
         go_simp
         with_reducible rfl
        rotate_left
        ·simp only [Act.put, sI, sZ, sS, i64_w]
         rfl
        refine pure_ (i := 7) (N := some 74) (v := ?_) (a' := ?_) #[true, false, true, false, false, true, false, true, false, false, false, false] rfl rfl (any_of HT_.out (by kernel_rfl)) (fun _ _ _ h => h) (Or.inl ⟨by rfl, ?_⟩) ?_ ?_
        rotate_left
        ·intro w'
         go_simp
         with_reducible rfl
        rotate_left
        ·simp only [Act.put, sI, sZ, sS, i64_w]
         rfl
        refine take_ (i := 1) (N := some 68) (v := ?_) (a' := ?_) #[true, true, true, false, false, true, false, true, false, false, false, false] rfl rfl (take_ofW HT_.out HW_.out (by kernel_rfl)) (fun _ _ _ h => h) (Or.inl ⟨by rfl, ?_⟩) hHeld ?_ ?_
        rotate_left
        ·rintro w' ⟨s0, s1, s2, s3⟩
         go_simp
         with_reducible rfl
        rotate_left
        ·simp only [Act.put, sI, sZ, sS, i64_w]
         rfl
        refine take_ (i := 3) (N := some 70) (v := ?_) (a' := ?_) #[true, true, true, true, false, true, false, true, false, false, false, false] rfl rfl (take_ofW HT_.out HW_.out (by kernel_rfl)) (fun _ _ _ h => h) (Or.inl ⟨by rfl, ?_⟩) hHeld ?_ ?_
        rotate_left
        ·rintro w' ⟨s0, s1, s2, s3⟩
         go_simp
         with_reducible rfl
        rotate_left
        ·simp only [Act.put, sI, sZ, sS, i64_w]
         rfl
        refine take_ (i := 6) (N := some 73) (v := ?_) (a' := ?_) #[true, true, true, true, false, true, true, true, false, false, false, false] rfl rfl (take_ofW HT_.out HW_.out (by kernel_rfl)) (fun _ _ _ h => h) (Or.inl ⟨by rfl, ?_⟩) hHeld ?_ ?_
        rotate_left
        ·rintro w' ⟨s0, s1, s2, s3⟩
         go_simp
         with_reducible rfl
        rotate_left
        ·simp only [Act.put, sI, sZ, sS, i64_w]
         rfl
        refine take_ (i := 8) (N := some 75) (v := ?_) (a' := ?_) #[true, true, true, true, false, true, true, true, true, false, false, false] rfl rfl (take_ofW HT_.out HW_.out (by kernel_rfl)) (fun _ _ _ h => h) (Or.inl ⟨by rfl, ?_⟩) hHeld ?_ ?_
        rotate_left
        ·rintro w' ⟨s0, s1, s2, s3⟩
         go_simp
         with_reducible rfl
        rotate_left
        ·simp only [Act.put, sI, sZ, sS, i64_w]
         rfl
        refine one_ (i := 4) (N := some 71) #[true, true, true, true, true, true, true, true, true, false, false, false] rfl rfl (one_of HT_.out (by kernel_rfl)) (by decide) (fun K hK => ?_)
        refine goes_ Try.func30 (by kernel_rfl) rfl #[.slice Ao53 t434.length co53, .slice A1_1 l1_1.length c1_1] (by rfl) rfl rfl (by (try simp only [mA, mC, mN]); first | done | rfl | (simp only [lD, lT]; rfl)) ?_
        with_reducible refine (nat_Mul.calls k2 _ _ t434 _ _ l1_1 t441 _ ?side1 ?side2 ?side3 ?side4 A35.out).mono ?_
        (case side1 => repeat (first | exact (rS HO436.out).2.2 | (with_reducible refine cA ?_ _) | (with_reducible refine cN ?_ _) | (with_reducible refine cD ?_)))
        (case side2 => exact (rS HO436.out).2.1)
        (case side3 => repeat (first | exact (Kd.C_below HR1_1.out HB.out) | (with_reducible refine cA ?_ _) | (with_reducible refine cN ?_ _) | (with_reducible refine cD ?_)))
        (case side4 => exact HC1_1.out)
        rintro e w59 ⟨v442, rfl, ho0, hb⟩
        refine ⟨_, rfl, ?_⟩
        have n0_ := aM (rE (by apply_rules [HO436.out, rN, rD]) (rB ho0) hb); have n1_ := aM (rE (by apply_rules [HO439.out, rN, rD]) (rB ho0) hb); have n2_ := aM (Kd.R_lower (rW (rW ho0 (rL (by apply_rules [HO436.out, rN, rD]))) (rL (by apply_rules [HO439.out, rN, rD]))) (bZ (by repeat (first | (with_reducible first | exact HB.out | apply bA | apply pN | apply bD | refine bE ?_ GE415.out | refine bE ?_ GE440.out) | exact HB.out)))); have n3_ := aM (blk_below (g := gb415) (o := .cells #[.slice A1_0 l1_0.length c1_0, .slice A1_1 l1_1.length c1_1] 57 (0, 0)) (by apply_rules [BK415.out, kN, kD, kA]) hb); have n4_ := aM (blk_below (g := gb440) (o := .cells #[.slice Ao53 t434.length co53, .slice Ao56 t437.length co56] 57 (0, 0)) (by apply_rules [BK440.out, kN, kD, kA]) hb); have n5_ := aM (bS (by repeat (first | (with_reducible first | exact HB.out | apply bA | apply pN | apply bD | refine bE ?_ GE415.out | refine bE ?_ GE440.out) | exact HB.out)) hb); clear HO436 HO439 BK415 BK440 HB; have HO436 := n0_; have HO439 := n1_; have HO443 := n2_; have BK415 := n3_; have BK440 := n4_; have HB := n5_; clear n0_ n1_ n2_ n3_ n4_ n5_
        (try clear hb)
        (try clear hb2)
        (try clear hk)
        (try clear hi)
        (try clear ho0)
        refine hK.out _ _ ⟨(kC BK440.out 0).trans rfl, (kC BK440.out 1).trans rfl, (kC BK415.out 0).trans rfl, (kC BK415.out 1).trans rfl⟩ (fun hHeld => ?_)
        clear hK K
        refine norm_ (a' := ?_) ?_ ?_
        rotate_left
        ·show Act.put _ (some 71) _ = _
         simp only [Act.put, sI, sZ, sS, i64_w]
         rfl
        refine one_ (i := 9) (N := some 76) #[true, true, true, true, true, true, true, true, true, true, false, false] rfl rfl (one_of HT_.out (by kernel_rfl)) (by decide) (fun K hK => ?_)
        refine goes_ Try.func30 (by kernel_rfl) rfl #[.slice A1_0 l1_0.length c1_0, .slice Ao56 t437.length co56] (by rfl) rfl rfl (by (try simp only [mA, mC, mN]); first | done | rfl | (simp only [lD, lT]; rfl)) ?_
        with_reducible refine (nat_Mul.calls k2 _ _ l1_0 _ _ t437 t444 _ ?side1 ?side2 ?side3 ?side4 A36.out).mono ?_
        (case side1 => repeat (first | exact (Kd.C_below HR1_0.out HB.out) | (with_reducible refine cA ?_ _) | (with_reducible refine cN ?_ _) | (with_reducible refine cD ?_)))
        (case side2 => exact HC1_0.out)
        (case side3 => repeat (first | exact (rS HO439.out).2.2 | (with_reducible refine cA ?_ _) | (with_reducible refine cN ?_ _) | (with_reducible refine cD ?_)))
        (case side4 => exact (rS HO439.out).2.1)
        rintro e w60 ⟨v445, rfl, ho0, hb⟩
        refine ⟨_, rfl, ?_⟩
        have n0_ := aM (rE (by apply_rules [HO436.out, rN, rD]) (rB ho0) hb); have n1_ := aM (rE (by apply_rules [HO439.out, rN, rD]) (rB ho0) hb); have n2_ := aM (rE (by apply_rules [HO443.out, rN, rD]) (rB ho0) hb); have n3_ := aM (Kd.R_lower (rW (rW (rW ho0 (rL (by apply_rules [HO436.out, rN, rD]))) (rL (by apply_rules [HO439.out, rN, rD]))) (rL (by apply_rules [HO443.out, rN, rD]))) (bZ (by repeat (first | (with_reducible first | exact HB.out | apply bA | apply pN | apply bD | refine bE ?_ GE415.out | refine bE ?_ GE440.out) | exact HB.out)))); have n4_ := aM (blk_below (g := gb415) (o := .cells #[.slice A1_0 l1_0.length c1_0, .slice A1_1 l1_1.length c1_1] 57 (0, 0)) (by apply_rules [BK415.out, kN, kD, kA]) hb); have n5_ := aM (blk_below (g := gb440) (o := .cells #[.slice Ao53 t434.length co53, .slice Ao56 t437.length co56] 57 (0, 0)) (by apply_rules [BK440.out, kN, kD, kA]) hb); have n6_ := aM (bS (by repeat (first | (with_reducible first | exact HB.out | apply bA | apply pN | apply bD | refine bE ?_ GE415.out | refine bE ?_ GE440.out) | exact HB.out)) hb); clear HO436 HO439 HO443 BK415 BK440 HB; have HO436 := n0_; have HO439 := n1_; have HO443 := n2_; have HO446 := n3_; have BK415 := n4_; have BK440 := n5_; have HB := n6_; clear n0_ n1_ n2_ n3_ n4_ n5_ n6_
        (try clear hb)
        (try clear hb2)
        (try clear hk)
        (try clear hi)
        (try clear ho0)
        obtain ⟨Ao61, co61, eo61⟩ := Kd.R_slice HO443.out
        (first | subst eo61 | (injection eo61 with f1_ f2_ f3_; have f4_ := f1_.symm; have f5_ := f3_.symm; clear f1_ f2_ f3_; subst f4_; subst f5_))
        obtain ⟨Ao62, co62, eo62⟩ := Kd.R_slice HO446.out
        (first | subst eo62 | (injection eo62 with f1_ f2_ f3_; have f4_ := f1_.symm; have f5_ := f3_.symm; clear f1_ f2_ f3_; subst f4_; subst f5_))
        refine hK.out _ _ ⟨(kC BK440.out 0).trans rfl, (kC BK440.out 1).trans rfl, (kC BK415.out 0).trans rfl, (kC BK415.out 1).trans rfl⟩ (fun hHeld => ?_)
        clear hK K
        refine norm_ (a' := ?_) ?_ ?_
        rotate_left
        ·show Act.put _ (some 76) _ = _
         simp only [Act.put, sI, sZ, sS, i64_w]
         rfl
        refine one_ (i := 10) (N := some 77) #[true, true, true, true, true, true, true, true, true, true, true, false] rfl rfl (one_of HT_.out (by kernel_rfl)) (by decide) (fun K hK => ?_)
        refine goes_ Try.func33 (by kernel_rfl) rfl #[.slice Ao61 t441.length co61, .slice Ao62 t444.length co62] (by rfl) rfl rfl (by (try simp only [mA, mC, mN]); first | done | rfl | (simp only [lD, lT]; rfl)) ?_
        with_reducible refine (nat_Cmp.calls k2 _ _ t441 _ _ t444 t447 _ ?side1 ?side2 ?side3 ?side4 A37.out).mono ?_
        (case side1 => repeat (first | exact (rS HO443.out).2.2 | (with_reducible refine cA ?_ _) | (with_reducible refine cN ?_ _) | (with_reducible refine cD ?_)))
        (case side2 => exact (rS HO443.out).2.1)
        (case side3 => repeat (first | exact (rS HO446.out).2.2 | (with_reducible refine cA ?_ _) | (with_reducible refine cN ?_ _) | (with_reducible refine cD ?_)))
        (case side4 => exact (rS HO446.out).2.1)
        rintro e w' ⟨rfl, ⟨nd, rfl⟩⟩
        refine ⟨_, rfl, ?_⟩
        refine hK.out _ _ ⟨(kC BK440.out 0).trans rfl, (kC BK440.out 1).trans rfl, (kC BK415.out 0).trans rfl, (kC BK415.out 1).trans rfl⟩ (fun hHeld => ?_)
        clear hK K
        refine norm_ (a' := ?_) ?_ ?_
        rotate_left
        ·show Act.put _ (some 77) _ = _
         simp only [Act.put, sI, sZ, sS, i64_w]
         rfl
        refine pure_ (i := 11) (N := some 78) (v := ?_) (a' := ?_) #[true, true, true, true, true, true, true, true, true, true, true, true] rfl rfl (any_of HT_.out (by kernel_rfl)) (fun _ _ _ h => h) (Or.inl ⟨by rfl, ?_⟩) ?_ ?_
        rotate_left
        ·intro w'
         go_simp
         with_reducible rfl
        rotate_left
        ·simp only [Act.put, sI, sZ, sS, i64_w]
         rfl
        refine done_ (done_of HT_.out (by kernel_rfl)) ?_
        try go_wp2
        go_roundg k2
        case measure => have := HJ4.out; have := HK2.out; omega
        case rel => exact ⟨(wrap64 ((wrap64 (Int.tdiv (wrap64 (x8_2 + x9_2)) 2)) + 1)), (x9_2), (by first | rfl | (simp; done) | (simp [*]; done)), (by first | rfl | (simp; done) | (simp [*]; done)), H', ⟨by have := HJ4.out; have := HK2.out; omega⟩, ⟨by (with_reducible repeat (first | refine kN ?_ _ | refine kD ?_ | refine kA ?_ _)); exact BK415.out⟩, ⟨by repeat (first | (with_reducible first | exact HB.out | apply bA | apply pN | apply bD | refine bE ?_ GE415.out | refine bE ?_ GE440.out) | exact HB.out)⟩⟩
      ·rw [if_neg c33] at H
       have c33b0 : decide (x8_2 < x9_2) = false := decide_eq_false c33
       clear c33
       by_cases c63 : 0 < (l0.length : Int)
       rotate_left
       ·rw [if_neg c63] at H; cases H
       rw [if_pos c63] at H
       have c63b0 : decide (0 < (l0.length : Int)) = true := dT c63
       have c63b1 : decide (0 < l0.length) = true := dT (by omega)
       clear c63
       by_cases c64 : 0 ≤ x7_4
       rotate_left
       ·rw [if_neg c64] at H; cases H
       rw [if_pos c64] at H
       have c64b0 : decide (0 ≤ x7_4) = true := dT c64
       clear c64
       by_cases c65 : x7_4 < (((rd_T51 l0 0).f1).length : Int)
       rotate_left
       ·rw [if_neg c65] at H; cases H
       rw [if_pos c65] at H
       have c65b0 : decide (x7_4 < (((rd_T51 l0 0).f1).length : Int)) = true := dT c65
       clear c65
       simp only [Option.some.injEq, Prod.mk.injEq] at H
       obtain ⟨rfl, rfl⟩ := H
       have p432 : 0 ≤ (0 : Int) := (by omega)
       have q432 : 0 < (l0.length : Int) := oD (by first | (with_reducible assumption) | assumption)
       obtain ⟨ad432, A432_0, c432_0, A432_1, c432_1, A432_2, c432_2, e432, hx432_0, hx432_1, hx432_2, hl432_0, hi432_0, hl432_1, hi432_1, hl432_2, hi432_2⟩ := at_T51 HR0.out 0 p432 q432
       have hv432_0 := hx432_0
       have hv432_1 := hx432_1
       have hv432_2 := hx432_2
       obtain rfl : ad429 = ad432 := (by injection e432)
       have qi432 : (0 < l0.length) = True := eq_true (by omega)
       (try rw [show ((0 : Int)).toNat = 0 from rfl] at hx432_0)
       (try rw [show 0 * 3 = 0 from rfl] at hx432_0)
       (try rw [Addr.add_zero'] at hx432_0)
       (try rw [show ((0 : Int)).toNat = 0 from rfl] at hx432_1)
       (try rw [show 0 * 3 = 0 from rfl] at hx432_1)
       (try rw [Addr.add_zero'] at hx432_1)
       (try rw [show ((0 : Int)).toNat = 0 from rfl] at hx432_2)
       (try rw [show 0 * 3 = 0 from rfl] at hx432_2)
       (try rw [Addr.add_zero'] at hx432_2)
       replace hx432_0 := (HB.out.cell (wL w _ hx432_0)).trans hx432_0
       replace hx432_1 := (HB.out.cell (wL w _ hx432_1)).trans hx432_1
       replace hx432_2 := (HB.out.cell (wL w _ hx432_2)).trans hx432_2
       have HR432_0 := aM hi432_0
       have HC432_0 := aM hl432_0
       clear hi432_0 hl432_0
       have HR432_1 := aM hi432_1
       have HC432_1 := aM hl432_1
       clear hi432_1 hl432_1
       have HR432_2 := aM hi432_2
       have HC432_2 := aM hl432_2
       clear hi432_2 hl432_2
       replace p432 := eq_true p432
       replace q432 := eq_true q432
       have p433 : 0 ≤ (x7_4 : Int) := oD (by first | (with_reducible assumption) | assumption)
       have q433 : x7_4 < (((rd_T51 l0 0).f1).length : Int) := oD (by first | (with_reducible assumption) | assumption)
       obtain ⟨ad433, e433, hx433_0⟩ := Kd.at_int HR432_1.out x7_4 p433 q433
       cases e433
       replace hx433_0 := (HB.out.cell (wL w _ hx433_0)).trans hx433_0
       replace p433 := eq_true p433
       replace q433 := eq_true q433
       go_wp2
       go_ret2
       exact ⟨by first | rfl | (simp [errW_none, errW_some] <;> rfl) | (simp [*, errW_none, errW_some] <;> rfl), by repeat (first | (with_reducible first | exact HB.out | apply bA | apply pN | apply bD | refine bE ?_ GE415.out) | exact HB.out)⟩
end Go.Proofs.Ytaoekkikpceccaa.QLoadAdmitKeepsTheLimit
