/- Lean functions that answer as the Go functions of this seat do, each with the proof of that; the text was written by a program of ours, a changed copy of the kit's print. Condition of each proof: the Lean function answers 'some'. -/
import Derived.Test.YtjfldeoddjicoaaLx0
import Derived.Test.YtjfldeoddjicoaaLx2
import Derived.Test.YtjfldeoddjicoaaLx3
import Derived.Test.YtjfldeoddjicoaaLx6
import Derived.Test.YtjfldeoddjicoaaLx7
namespace Go.Proofs.Ytjfldeoddjicoaa.QLoadCountAddsUp
open Go.RowKit Go.Proofs.YtjfldeoddjicoaaW.PrintWords Go.Proofs.YtjfldeoddjicoaaW.PrintLast Go.Proofs.YtjfldeoddjicoaaW.PrintMore
open Go.Proofs.YtjfldeoddjicoaaW.PrintWords.Kd renaming R_drewN → rN, R_drew → rD
open Go.Proofs.YtjfldeoddjicoaaW.PrintWords renaming pw_below_drewN → pN, below_drew1 → bD, below_alloc → bA, blk_drewN → kN, blk_alloc → kA, blk_drew → kD, below_step → bS, gate_callee → gC
open Go.Proofs.YtjfldeoddjicoaaW.PrintLast renaming goesL_ → gL
open List renaming setIfInBounds_toArray → sI, set_cons_zero → sZ, set_cons_succ → sS, map_toArray → mA
attribute [local go_sem] min2_int min_two
set_option linter.unusedVariables false
set_option linter.unusedSimpArgs false
mutual
def load_line_first.j1 : Nat → List (S96) → Int → List Int → List Int → Option (Int × Bool)
 | 0, _, _, _, _ => none
 | k + 1, x0, x7, x394000, x394001 => if 0 < (x0.length : Int) then (if x7 = (((rd_T96 x0 0).f0).length : Int) then (some (0, false)) else (if 0 ≤ x7 then (if x7 < (((rd_T96 x0 0).f0).length : Int) then (load_line_first.l1 k x0 x7 0 ((rd_T77 ((rd_T96 x0 0).f0) x7).f0) x394000 x394001) else (none)) else (none))) else (none)
def load_line_first.l1 : Nat → List (S96) → Int → Int → Int → List Int → List Int → Option (Int × Bool)
 | 0, _, _, _, _, _, _ => none
 | k + 1, x0, x7, x8, x9, x394000, x394001 => if x8 < x9 then ((load_line_area.f k x0 x7 (wrap64 (Int.tdiv (wrap64 (x8 + x9)) 2))).bind fun bt412 => ((nat_Mul.f k bt412.1 x394001).bind fun t419 => ((nat_Mul.f k x394000 bt412.2).bind fun t422 => ((nat_Cmp.f k t419 t422).bind fun t425 => (if t425 ≥ 0 then (load_line_first.l1 k x0 x7 x8 (wrap64 (Int.tdiv (wrap64 (x8 + x9)) 2)) x394000 x394001) else (load_line_first.l1 k x0 x7 (wrap64 ((wrap64 (Int.tdiv (wrap64 (x8 + x9)) 2)) + 1)) x9 x394000 x394001)))))) else (if 0 < (x0.length : Int) then (if 0 ≤ x7 then (if x7 < (((rd_T96 x0 0).f1).length : Int) then (some (wrap64 ((rd ((rd_T96 x0 0).f1) x7) + x8), true)) else (none)) else (none)) else (none))
def load_line_first.l0 : Nat → List (S96) → List Int → Int → List Int → List Int → Option (Int × Bool)
 | 0, _, _, _, _, _ => none
 | k + 1, x0, x6, x7, x394000, x394001 => if 0 < (x0.length : Int) then (if x7 < (((rd_T96 x0 0).f0).length : Int) then (if 0 ≤ (wrap64 (x7 + 1)) then (if (wrap64 (x7 + 1)) < (((rd_T96 x0 0).f2).length : Int) then ((nat_Mul.f k (rd_L3 ((rd_T96 x0 0).f2) (wrap64 (x7 + 1))) x394001).bind fun t403 => ((nat_Cmp.f k t403 x6).bind fun t406 => (if t406 < 0 then (load_line_first.l0 k x0 x6 (wrap64 (x7 + 1)) x394000 x394001) else (load_line_first.j1 k x0 x7 x394000 x394001)))) else (none)) else (none)) else (load_line_first.j1 k x0 x7 x394000 x394001)) else (none)
end
def load_line_first.f (k : Nat) (l0 : List (S96)) (l1_0 : List Int) (l1_1 : List Int) : Option (Int × Bool) := (nat_Of.f 2000000000).bind fun t394 => ((nat_Mul.f k l1_0 t394).bind fun t397 => (load_line_first.l0 k l0 t397 0 l1_0 l1_1))
theorem load_line_first.mono_l : ∀ k, (∀ y0 y1 y2 y3, LeO (load_line_first.j1 k y0 y1 y2 y3) (load_line_first.j1 (k + 1) y0 y1 y2 y3)) ∧ (∀ y0 y1 y2 y3 y4 y5, LeO (load_line_first.l1 k y0 y1 y2 y3 y4 y5) (load_line_first.l1 (k + 1) y0 y1 y2 y3 y4 y5)) ∧ (∀ y0 y1 y2 y3 y4, LeO (load_line_first.l0 k y0 y1 y2 y3 y4) (load_line_first.l0 (k + 1) y0 y1 y2 y3 y4))
 | 0 => ⟨fun _ _ _ _ r h => by simp [load_line_first.j1] at h, fun _ _ _ _ _ _ r h => by simp [load_line_first.l1] at h, fun _ _ _ _ _ r h => by simp [load_line_first.l0] at h⟩
 | k + 1 => by
  obtain ⟨ih0, ih1, ih2⟩ := load_line_first.mono_l k
  refine ⟨?_, ?_, ?_⟩
  ·intro y0 y1 y2 y3
   unfold load_line_first.j1
   repeat' first
   | (with_reducible exact ih0 _ _ _ _)
   | (with_reducible exact ih1 _ _ _ _ _ _)
   | (with_reducible exact ih2 _ _ _ _ _)
   | (with_reducible exact load_line_area.mono _ _ _ _)
   | (with_reducible exact nat_Cmp.mono _ _ _)
   | (with_reducible exact nat_Mul.mono _ _ _)
   | (with_reducible exact LeO.refl _)
   | (with_reducible exact LeO.none _)
   | (with_reducible refine LeO.ite ?_ ?_)
   | (with_reducible refine LeO.bind ?_ (fun _ => ?_))
   | exact ih0 _ _ _ _
   | exact ih1 _ _ _ _ _ _
   | exact ih2 _ _ _ _ _
   | exact load_line_area.mono _ _ _ _
   | exact nat_Cmp.mono _ _ _
   | exact nat_Mul.mono _ _ _
   | exact LeO.none _
   | refine LeO.ite ?_ ?_
   | refine LeO.bind ?_ (fun _ => ?_)
  ·intro y0 y1 y2 y3 y4 y5
   unfold load_line_first.l1
   repeat' first
   | (with_reducible exact ih0 _ _ _ _)
   | (with_reducible exact ih1 _ _ _ _ _ _)
   | (with_reducible exact ih2 _ _ _ _ _)
   | (with_reducible exact load_line_area.mono _ _ _ _)
   | (with_reducible exact nat_Cmp.mono _ _ _)
   | (with_reducible exact nat_Mul.mono _ _ _)
   | (with_reducible exact LeO.refl _)
   | (with_reducible exact LeO.none _)
   | (with_reducible refine LeO.ite ?_ ?_)
   | (with_reducible refine LeO.bind ?_ (fun _ => ?_))
   | exact ih0 _ _ _ _
   | exact ih1 _ _ _ _ _ _
   | exact ih2 _ _ _ _ _
   | exact load_line_area.mono _ _ _ _
   | exact nat_Cmp.mono _ _ _
   | exact nat_Mul.mono _ _ _
   | exact LeO.none _
   | refine LeO.ite ?_ ?_
   | refine LeO.bind ?_ (fun _ => ?_)
  ·intro y0 y1 y2 y3 y4
   unfold load_line_first.l0
   repeat' first
   | (with_reducible exact ih0 _ _ _ _)
   | (with_reducible exact ih1 _ _ _ _ _ _)
   | (with_reducible exact ih2 _ _ _ _ _)
   | (with_reducible exact load_line_area.mono _ _ _ _)
   | (with_reducible exact nat_Cmp.mono _ _ _)
   | (with_reducible exact nat_Mul.mono _ _ _)
   | (with_reducible exact LeO.refl _)
   | (with_reducible exact LeO.none _)
   | (with_reducible refine LeO.ite ?_ ?_)
   | (with_reducible refine LeO.bind ?_ (fun _ => ?_))
   | exact ih0 _ _ _ _
   | exact ih1 _ _ _ _ _ _
   | exact ih2 _ _ _ _ _
   | exact load_line_area.mono _ _ _ _
   | exact nat_Cmp.mono _ _ _
   | exact nat_Mul.mono _ _ _
   | exact LeO.none _
   | refine LeO.ite ?_ ?_
   | refine LeO.bind ?_ (fun _ => ?_)
theorem load_line_first.mono : ∀ a0 a1 a2 k, LeO (load_line_first.f k a0 a1 a2) (load_line_first.f (k + 1) a0 a1 a2) := by
 intro a0 a1 a2 k
 obtain ⟨ih0, ih1, ih2⟩ := load_line_first.mono_l k
 unfold load_line_first.f
 repeat' first
   | (with_reducible exact ih0 _ _ _ _)
   | (with_reducible exact ih1 _ _ _ _ _ _)
   | (with_reducible exact ih2 _ _ _ _ _)
   | (with_reducible exact load_line_area.mono _ _ _ _)
   | (with_reducible exact nat_Cmp.mono _ _ _)
   | (with_reducible exact nat_Mul.mono _ _ _)
   | (with_reducible exact LeO.refl _)
   | (with_reducible exact LeO.none _)
   | (with_reducible refine LeO.ite ?_ ?_)
   | (with_reducible refine LeO.bind ?_ (fun _ => ?_))
   | exact ih0 _ _ _ _
   | exact ih1 _ _ _ _ _ _
   | exact ih2 _ _ _ _ _
   | exact load_line_area.mono _ _ _ _
   | exact nat_Cmp.mono _ _ _
   | exact nat_Mul.mono _ _ _
   | exact LeO.none _
   | refine LeO.ite ?_ ?_
   | refine LeO.bind ?_ (fun _ => ?_)
def load_line_first.T3 : Bool × List (List Nat × List Nat) := (true, [([], []), ([], []), ([1], [1]), ([2], [2]), ([3], [3]), ([4], [4]), ([0, 5], [0, 5]), ([6], [6]), ([7], [7]), ([8, 7], [7, 8]), ([9, 7], [7, 9]), ([10, 7], [7, 10]), ([7], [7]), ([12, 7], [7, 12]), ([11, 13, 7], [7, 11, 13]), ([14, 7], [7, 14]), ([7], [7]), ([16, 7], [7, 16]), ([15, 17, 7, 7], [7, 15, 17]), ([7], [7]), ([18, 19, 18, 7], [7, 18, 19]), ([20, 7], [7, 20]), ([7, 21], [7, 21])])
def load_line_first.B3 : List Nat := [0, 0, 2, 6, 14, 30, 63, 127, 255, 511, 1023, 2047, 255, 4351, 16383, 32767, 255, 65791, 262143, 255, 1048575, 2097151, 4194303]
theorem load_line_first.tab3 : rtab .any (opsOf Try.f55 3) = load_line_first.T3 := by kernel_rfl
theorem load_line_first.bits3 : waitsOk load_line_first.T3.2 load_line_first.B3 = true := by kernel_rfl
def load_line_first.T7 : Bool × List (List Nat × List Nat) := (true, [([], []), ([0], [0]), ([1], [1]), ([2], [2]), ([], []), ([3, 4], [3, 4]), ([5], [5]), ([6], [6]), ([], []), ([7, 8, 0, 1, 2, 3, 4, 5, 6, 7, 8], [7])])
def load_line_first.B7 : List Nat := [0, 1, 3, 7, 0, 31, 63, 127, 0, 511]
theorem load_line_first.tab7 : rtab .any (opsOf Try.f55 7) = load_line_first.T7 := by kernel_rfl
theorem load_line_first.bits7 : waitsOk load_line_first.T7.2 load_line_first.B7 = true := by kernel_rfl
def load_line_first.T11 : Bool × List (List Nat × List Nat) := (true, [([], []), ([0], [0]), ([], []), ([2], [2]), ([1, 3], [1, 3]), ([], []), ([5], [5]), ([], []), ([7], [7]), ([6, 8, 4], [6, 8]), ([4, 9, 9], [4, 9]), ([10], [10])])
def load_line_first.B11 : List Nat := [0, 1, 0, 4, 15, 0, 32, 0, 128, 511, 1023, 2047]
theorem load_line_first.tab11 : rtab .any (opsOf Try.f55 11) = load_line_first.T11 := by kernel_rfl
theorem load_line_first.bits11 : waitsOk load_line_first.T11.2 load_line_first.B11 = true := by kernel_rfl
set_option maxHeartbeats 8000000 in
set_option maxRecDepth 100000 in
theorem load_line_first.calls (k : Nat) (A0 : Option Addr) (c0 : Nat) (l0 : List (S96)) (A1_0 : Option Addr) (c1_0 : Nat) (l1_0 : List Int) (A1_1 : Option Addr) (c1_1 : Nat) (l1_1 : List Int) (r1 : Int) (r2 : Bool) (w : World) (hr0 : Kd.C k96 w A0 l0.length l0) (hc0 : l0.length ≤ c0) (hr1_0 : Kd.C (Kd.int .u64) w A1_0 l1_0.length l1_0) (hc1_0 : l1_0.length ≤ c1_0) (hr1_1 : Kd.C (Kd.int .u64) w A1_1 l1_1.length l1_1) (hc1_1 : l1_1.length ≤ c1_1) (h : load_line_first.f k l0 l1_0 l1_1 = some (r1, r2)) :
  Calls Try.prog 55 #[.pointer A0, .agg #[.slice A1_0 l1_0.length c1_0, .slice A1_1 l1_1.length c1_1]] w fun e w' => e = .returned (.tuple #[.int .i64 r1, .bool r2]) ∧ Below w.heap.size w w' := by
 have hu102 := Try.underlying102
 have HR0 := aM hr0
 have HC0 := aM hc0
 clear hr0 hc0
 have HR1_0 := aM hr1_0
 have HC1_0 := aM hc1_0
 clear hr1_0 hc1_0
 have HR1_1 := aM hr1_1
 have HC1_1 := aM hc1_1
 clear hr1_1 hc1_1
 have HB := aM (Below.refl w.heap.size w)
 have H : ((nat_Of.f 2000000000).bind fun t394 => ((nat_Mul.f k l1_0 t394).bind fun t397 => (load_line_first.l0 k l0 t397 0 l1_0 l1_1))) = some (r1, r2) := h
 clear h
 replace H := oB H
 obtain ⟨t394, A30, H⟩ := H
 replace H : ((nat_Mul.f k l1_0 t394).bind fun t397 => (load_line_first.l0 k l0 t397 0 l1_0 l1_1)) = some (r1, r2) := H
 have A3 := aM A30; clear A30
 replace H := oB H
 obtain ⟨t397, A40, H⟩ := H
 replace H : (load_line_first.l0 k l0 t397 0 l1_0 l1_1) = some (r1, r2) := H
 have A4 := aM A40; clear A40; have HC5 := aM H; clear H
 go_enter Try.func55, Try.ntmps55
 try go_wp2_with (first | ((with_reducible refine gate_dst (N := 3) rfl ?_); refine box_event ?hg (N := 3) ?hd (cs := #[.slice A1_0 l1_0.length c1_0, .slice A1_1 l1_1.length c1_1]) (t := 102) ?hr ?_; (case hd => rfl); (case hg => rfl); (case hr => first | (go_simp; done) | (go_simp; rfl)); intro gb393 hg w6 hbox hb; have n0_ := aM (bS (by repeat (first | (with_reducible first | exact HB.out | apply bA | apply pN | apply bD) | exact HB.out)) hb); have n1_ := aM (hbox); have n2_ := aM ((by rw [hg]; exact (below_size (by repeat (first | (with_reducible first | exact HB.out | apply bA | apply pN | apply bD) | exact HB.out))) : w.heap.size ≤ gb393)); have n3_ := aM ((by rw [hg]; exact (below_size (by repeat (first | (with_reducible first | exact HB.out | apply bA | apply pN | apply bD) | exact HB.out))) : w.heap.size ≤ gb393)); clear HB; have HB := n0_; have BK393 := n1_; have GW393 := n2_; have GE393 := n3_; clear n0_ n1_ n2_ n3_ hb hbox hg))
 have n0_ := aM (kD BK393.out); have n1_ := aM (bD HB.out); clear BK393 HB; have BK393 := n0_; have HB := n1_; clear n0_ n1_
 refine start_ (n := 5) (S := fun w' => w'.cell? ⟨gb393, 0, none⟩ = some (.slice A1_0 l1_0.length c1_0) ∧ w'.cell? ⟨gb393, 1, none⟩ = some (.slice A1_1 l1_1.length c1_1)) (ds := []) #[false, false, false, false, false] (by kernel_rfl) rfl rfl ⟨(blk_cell BK393.out 0).trans rfl, (blk_cell BK393.out 1).trans rfl⟩ (fun hHeld => ?_)
 generalize w6.drew = w7 at BK393 HB hHeld ⊢
 refine pure_ (i := 0) (N := some 12) (v := ?_) (a' := ?_) #[true, false, false, false, false] rfl rfl (by kernel_rfl) (fun _ _ _ h => h) (Or.inl ⟨by rfl, ?_⟩) ?_ ?_
 rotate_left
 ·intro w'
  go_simp
  with_reducible rfl
 rotate_left
 ·simp only [Act.put, sI, sZ, sS, i64_w, i32_w]
  rfl
 refine take_ (i := 1) (N := some 13) (v := ?_) (a' := ?_) #[true, true, false, false, false] rfl rfl (by kernel_rfl) (fun _ _ _ h => h) (Or.inl ⟨by rfl, ?_⟩) hHeld ?_ ?_
 rotate_left
 ·rintro w' ⟨s0, s1⟩
  go_simp
  with_reducible rfl
 rotate_left
 ·simp only [Act.put, sI, sZ, sS, i64_w, i32_w]
  rfl
 refine one_ (i := 2) (N := some 14) #[true, true, true, false, false] rfl rfl (by kernel_rfl) (by decide) (fun K hK => ?_)
 refine goes_ Try.func56 (by kernel_rfl) rfl #[.int .i64 2000000000] (by rfl) rfl rfl (by (try simp only [mA, List.map_cons, List.map_nil]); first | done | rfl | (simp only [List.length_drop, List.length_take]; rfl)) ?_
 with_reducible refine (nat_Of.calls 2000000000 t394 _ A3.out).mono ?_
 rintro e w8 ⟨v395, rfl, ho0, hb⟩
 refine ⟨_, rfl, ?_⟩
 have n0_ := aM (Kd.R_lower ho0 (below_size (by repeat (first | (with_reducible first | exact HB.out | apply bA | apply pN | apply bD | refine below_set ?_ GE393.out) | exact HB.out)))); have n1_ := aM (blk_below (g := gb393) (o := .cells #[.slice A1_0 l1_0.length c1_0, .slice A1_1 l1_1.length c1_1] 102 (0, 0)) (by (with_reducible repeat (first | refine kN ?_ _ | refine kD ?_ | refine kA ?_ _)); exact BK393.out) hb); have n2_ := aM (bS (by repeat (first | (with_reducible first | exact HB.out | apply bA | apply pN | apply bD | refine below_set ?_ GE393.out) | exact HB.out)) hb); clear BK393 HB; have HO396 := n0_; have BK393 := n1_; have HB := n2_; clear n0_ n1_ n2_
 (try clear hb)
 (try clear hb2)
 (try clear hk)
 (try clear hi)
 (try clear ho0)
 obtain ⟨Ao9, co9, eo9⟩ := Kd.R_slice HO396.out
 (first | subst eo9 | (injection eo9 with f1_ f2_ f3_; have f4_ := f1_.symm; have f5_ := f3_.symm; clear f1_ f2_ f3_; subst f4_; subst f5_))
 refine hK.out _ _ ⟨(blk_cell BK393.out 0).trans rfl, (blk_cell BK393.out 1).trans rfl⟩ (fun hHeld => ?_)
 clear hK K
 refine norm_ (a' := ?_) ?_ ?_
 rotate_left
 ·show Act.put _ (some 14) _ = _
  simp only [Act.put, sI, sZ, sS, i64_w, i32_w]
  rfl
 refine one_ (i := 3) (N := some 15) #[true, true, true, true, false] rfl rfl (by kernel_rfl) (by decide) (fun K hK => ?_)
 refine goes_ Try.func74 (by kernel_rfl) rfl #[.slice A1_0 l1_0.length c1_0, .slice Ao9 t394.length co9] (by rfl) rfl rfl (by (try simp only [mA, List.map_cons, List.map_nil]); first | done | rfl | (simp only [List.length_drop, List.length_take]; rfl)) ?_
 with_reducible refine (nat_Mul.calls k _ _ l1_0 _ _ t394 t397 _ ?side1 ?side2 ?side3 ?side4 A4.out).mono ?_
 (case side1 => repeat (first | exact (Kd.C_below HR1_0.out HB.out) | (with_reducible refine cA ?_ _) | (with_reducible refine cN ?_ _) | (with_reducible refine cD ?_)))
 (case side2 => exact HC1_0.out)
 (case side3 => repeat (first | exact (Kd.R_reads' HO396.out).2.2 | (with_reducible refine cA ?_ _) | (with_reducible refine cN ?_ _) | (with_reducible refine cD ?_)))
 (case side4 => exact (Kd.R_reads' HO396.out).2.1)
 rintro e w10 ⟨v398, rfl, ho0, hb⟩
 refine ⟨_, rfl, ?_⟩
 have n0_ := aM (Kd.R_elder' (by (with_reducible repeat (first | apply rA | apply rN | apply rD)); exact HO396.out) (Kd.R_base ho0) hb); have n1_ := aM (Kd.R_lower (Kd.R_new' ho0 (Kd.R_lt (by (with_reducible repeat (first | apply rA | apply rN | apply rD)); exact HO396.out))) (below_size (by repeat (first | (with_reducible first | exact HB.out | apply bA | apply pN | apply bD | refine below_set ?_ GE393.out) | exact HB.out)))); have n2_ := aM (blk_below (g := gb393) (o := .cells #[.slice A1_0 l1_0.length c1_0, .slice A1_1 l1_1.length c1_1] 102 (0, 0)) (by (with_reducible repeat (first | refine kN ?_ _ | refine kD ?_ | refine kA ?_ _)); exact BK393.out) hb); have n3_ := aM (bS (by repeat (first | (with_reducible first | exact HB.out | apply bA | apply pN | apply bD | refine below_set ?_ GE393.out) | exact HB.out)) hb); clear HO396 BK393 HB; have HO396 := n0_; have HO399 := n1_; have BK393 := n2_; have HB := n3_; clear n0_ n1_ n2_ n3_
 (try clear hb)
 (try clear hb2)
 (try clear hk)
 (try clear hi)
 (try clear ho0)
 refine hK.out _ _ ⟨(blk_cell BK393.out 0).trans rfl, (blk_cell BK393.out 1).trans rfl⟩ (fun hHeld => ?_)
 clear hK K
 refine norm_ (a' := ?_) ?_ ?_
 rotate_left
 ·show Act.put _ (some 15) _ = _
  simp only [Act.put, sI, sZ, sS, i64_w, i32_w]
  rfl
 refine pure_ (i := 4) (N := some 6) (v := ?_) (a' := ?_) #[true, true, true, true, true] rfl rfl (by kernel_rfl) (fun _ _ _ h => h) (Or.inl ⟨by rfl, ?_⟩) ?_ ?_
 rotate_left
 ·intro w'
  go_simp
  with_reducible rfl
 rotate_left
 ·simp only [Act.put, sI, sZ, sS, i64_w, i32_w]
  rfl
 refine done_ (by kernel_rfl) ?_
 go_upto_block 0 with (fail)
 go_cut [7] (fun v7 wc => ∃ (kq : Nat) (x7_4 : Int), v7 = .int .i64 x7_4 ∧ Aside0 (load_line_first.j1 kq l0 x7_4 l1_0 l1_1 = some (r1, r2)) ∧ Aside0 (kq ≤ k) ∧ Aside0 (wc.heap[gb393]? = some (.cells #[(.slice A1_0 l1_0.length c1_0), (.slice A1_1 l1_1.length c1_1)] 102 (0, 0))) ∧ Aside0 (Below w.heap.size w wc))
 case first =>
  have H := HC5.out
  clear HC5; have H' := aM H; clear H
  go_wp2
  go_loopg [7] k (fun kq v7 w' => ∃ (x7_1 : Int), v7 = .int .i64 x7_1 ∧ Aside0 (load_line_first.l0 kq l0 t397 x7_1 l1_0 l1_1 = some (r1, r2)) ∧ Aside0 (kq ≤ k) ∧ Aside0 (Kd.R (Kd.int .u64) 85 w' w.heap.size (fun _ => True) v398 t397) ∧ Aside0 (w'.heap[gb393]? = some (.cells #[(.slice A1_0 l1_0.length c1_0), (.slice A1_1 l1_1.length c1_1)] 102 (0, 0))) ∧ Aside0 (Below w.heap.size w w'))
  case atStart => exact ⟨(0), (by first | rfl | (simp; done) | (simp [*]; done)), H', ⟨Nat.le_refl _⟩, ⟨by (with_reducible repeat (first | apply rA | apply rN | apply rD)); exact Kd.R_mono HO399.out (fun _ hk => trivial)⟩, ⟨by (with_reducible repeat (first | refine kN ?_ _ | refine kD ?_ | refine kA ?_ _)); exact BK393.out⟩, ⟨by repeat (first | (with_reducible first | exact HB.out | apply bA | apply pN | apply bD | refine below_set ?_ GE393.out) | exact HB.out)⟩⟩
  case round =>
   clear H'
   try clear c1
   try clear p2
   try clear c5
   try clear c7
   obtain ⟨x7_1, rfl, HA, HK1, HO_6, BK393, HB⟩ := hrel
   cases gk with
   | zero => exact absurd HA.out (by simp [load_line_first.l0])
   | succ k1 =>
    have H := HA.out
    clear HA
    simp only [load_line_first.l0] at H
    by_cases c11 : 0 < (l0.length : Int)
    ·rw [if_pos c11] at H
     have c11b0 : decide (0 < (l0.length : Int)) = true := dT c11
     have c11b1 : decide (0 < l0.length) = true := dT (by omega)
     clear c11
     (first | rw [c11b0] | (simp only [i64_w, i32_w]; rw [c11b0]) | skip)
     by_cases c12 : x7_1 < (((rd_T96 l0 0).f0).length : Int)
     ·rw [if_pos c12] at H
      have c12b0 : decide (x7_1 < (((rd_T96 l0 0).f0).length : Int)) = true := dT c12
      clear c12
      obtain ⟨ji13, hji13⟩ : ∃ j_ : Int, (wrap64 (x7_1 + 1)) = j_ := ⟨_, rfl⟩
      replace H : (if 0 ≤ (ji13) then (if (ji13) < (((rd_T96 l0 0).f2).length : Int) then ((nat_Mul.f k1 (rd_L3 ((rd_T96 l0 0).f2) (ji13)) l1_1).bind fun t403 => ((nat_Cmp.f k1 t403 t397).bind fun t406 => (if t406 < 0 then (load_line_first.l0 k1 l0 t397 ji13 l1_0 l1_1) else (load_line_first.j1 k1 l0 x7_1 l1_0 l1_1)))) else (none)) else (none)) = some (r1, r2) := by first | (rw [hji13] at H; exact H) | (simp only [hji13] at H ⊢; exact H)
      have hji13w : (IntKind.i64.wrap (x7_1 + 1)) = ji13 := (i64_w _).trans hji13
      by_cases c14 : 0 ≤ (ji13)
      ·rw [if_pos c14] at H
       have c14b0 : decide (0 ≤ (ji13)) = true := dT c14
       clear c14
       by_cases c15 : (ji13) < (((rd_T96 l0 0).f2).length : Int)
       ·rw [if_pos c15] at H
        have c15b0 : decide ((ji13) < (((rd_T96 l0 0).f2).length : Int)) = true := dT c15
        clear c15
        replace H := oB H
        obtain ⟨t403, A160, H⟩ := H
        replace H : ((nat_Cmp.f k1 t403 t397).bind fun t406 => (if t406 < 0 then (load_line_first.l0 k1 l0 t397 ji13 l1_0 l1_1) else (load_line_first.j1 k1 l0 x7_1 l1_0 l1_1))) = some (r1, r2) := H
        have A16 := aM A160; clear A160
        replace H := oB H
        obtain ⟨t406, A170, H⟩ := H
        replace H : (if t406 < 0 then (load_line_first.l0 k1 l0 t397 ji13 l1_0 l1_1) else (load_line_first.j1 k1 l0 x7_1 l1_0 l1_1)) = some (r1, r2) := H
        have A17 := aM A170; clear A170
        by_cases c18 : t406 < 0
        ·rw [if_pos c18] at H
         have c18b0 : decide (t406 < 0) = true := dT c18
         clear c18; have H' := aM H; clear H
         try go_wp2
         have n0_ := aM (rD HO_6.out); have n1_ := aM (kD BK393.out); have n2_ := aM (bD HB.out); clear HO_6 BK393 HB; have HO_6 := n0_; have BK393 := n1_; have HB := n2_; clear n0_ n1_ n2_
         have p400 : 0 ≤ (0 : Int) := (by omega)
         have q400 : 0 < (l0.length : Int) := oD (by first | (with_reducible assumption) | assumption)
         obtain ⟨ad400, A400_0, c400_0, A400_1, c400_1, A400_2, c400_2, e400, hx400_0, hx400_1, hx400_2, hl400_0, hi400_0, hl400_1, hi400_1, hl400_2, hi400_2⟩ := at_T96 HR0.out 0 p400 q400
         have hw400_2 := hx400_2
         (try rw [show ((0 : Int)).toNat = 0 from rfl] at hw400_2)
         (try rw [show 0 * 3 = 0 from rfl] at hw400_2)
         (try rw [Addr.add_zero'] at hw400_2)
         have hw400_1 := hx400_1
         (try rw [show ((0 : Int)).toNat = 0 from rfl] at hw400_1)
         (try rw [show 0 * 3 = 0 from rfl] at hw400_1)
         (try rw [Addr.add_zero'] at hw400_1)
         have hw400_0 := hx400_0
         (try rw [show ((0 : Int)).toNat = 0 from rfl] at hw400_0)
         (try rw [show 0 * 3 = 0 from rfl] at hw400_0)
         (try rw [Addr.add_zero'] at hw400_0)
         have hv400_0 := hx400_0
         have hv400_1 := hx400_1
         have hv400_2 := hx400_2
         cases e400
         have qi400 : (0 < l0.length) = True := eq_true (by omega)
         (try rw [show ((0 : Int)).toNat = 0 from rfl] at hx400_0)
         (try rw [show 0 * 3 = 0 from rfl] at hx400_0)
         (try rw [Addr.add_zero'] at hx400_0)
         (try rw [show ((0 : Int)).toNat = 0 from rfl] at hx400_1)
         (try rw [show 0 * 3 = 0 from rfl] at hx400_1)
         (try rw [Addr.add_zero'] at hx400_1)
         (try rw [show ((0 : Int)).toNat = 0 from rfl] at hx400_2)
         (try rw [show 0 * 3 = 0 from rfl] at hx400_2)
         (try rw [Addr.add_zero'] at hx400_2)
         replace hx400_0 := (HB.out.cell (World.block_lt_of_cell? w _ hx400_0)).trans hx400_0
         replace hx400_1 := (HB.out.cell (World.block_lt_of_cell? w _ hx400_1)).trans hx400_1
         replace hx400_2 := (HB.out.cell (World.block_lt_of_cell? w _ hx400_2)).trans hx400_2
         have HR400_0 := aM hi400_0
         have HC400_0 := aM hl400_0
         clear hi400_0 hl400_0
         have HR400_1 := aM hi400_1
         have HC400_1 := aM hl400_1
         clear hi400_1 hl400_1
         have HR400_2 := aM hi400_2
         have HC400_2 := aM hl400_2
         clear hi400_2 hl400_2
         replace p400 := eq_true p400
         replace q400 := eq_true q400
         have p401 : 0 ≤ (0 : Int) := (by omega)
         have q401 : 0 < (l0.length : Int) := oD (by first | (with_reducible assumption) | assumption)
         obtain ⟨ad401, A401_0, c401_0, A401_1, c401_1, A401_2, c401_2, e401, hx401_0, hx401_1, hx401_2, hl401_0, hi401_0, hl401_1, hi401_1, hl401_2, hi401_2⟩ := at_T96 HR0.out 0 p401 q401
         have hw401_2 := hx401_2
         (try rw [show ((0 : Int)).toNat = 0 from rfl] at hw401_2)
         (try rw [show 0 * 3 = 0 from rfl] at hw401_2)
         (try rw [Addr.add_zero'] at hw401_2)
         have hw401_1 := hx401_1
         (try rw [show ((0 : Int)).toNat = 0 from rfl] at hw401_1)
         (try rw [show 0 * 3 = 0 from rfl] at hw401_1)
         (try rw [Addr.add_zero'] at hw401_1)
         have hw401_0 := hx401_0
         (try rw [show ((0 : Int)).toNat = 0 from rfl] at hw401_0)
         (try rw [show 0 * 3 = 0 from rfl] at hw401_0)
         (try rw [Addr.add_zero'] at hw401_0)
         have hv401_0 := hx401_0
         have hv401_1 := hx401_1
         have hv401_2 := hx401_2
         obtain rfl : ad400 = ad401 := (by injection e401)
         have qi401 : (0 < l0.length) = True := eq_true (by omega)
         (try rw [show ((0 : Int)).toNat = 0 from rfl] at hx401_0)
         (try rw [show 0 * 3 = 0 from rfl] at hx401_0)
         (try rw [Addr.add_zero'] at hx401_0)
         (try rw [show ((0 : Int)).toNat = 0 from rfl] at hx401_1)
         (try rw [show 0 * 3 = 0 from rfl] at hx401_1)
         (try rw [Addr.add_zero'] at hx401_1)
         (try rw [show ((0 : Int)).toNat = 0 from rfl] at hx401_2)
         (try rw [show 0 * 3 = 0 from rfl] at hx401_2)
         (try rw [Addr.add_zero'] at hx401_2)
         replace hx401_0 := (HB.out.cell (World.block_lt_of_cell? w _ hx401_0)).trans hx401_0
         replace hx401_1 := (HB.out.cell (World.block_lt_of_cell? w _ hx401_1)).trans hx401_1
         replace hx401_2 := (HB.out.cell (World.block_lt_of_cell? w _ hx401_2)).trans hx401_2
         have HR401_0 := aM hi401_0
         have HC401_0 := aM hl401_0
         clear hi401_0 hl401_0
         have HR401_1 := aM hi401_1
         have HC401_1 := aM hl401_1
         clear hi401_1 hl401_1
         have HR401_2 := aM hi401_2
         have HC401_2 := aM hl401_2
         clear hi401_2 hl401_2
         replace p401 := eq_true p401
         replace q401 := eq_true q401
         have ea_ := Option.some.inj (hv400_0.symm.trans hv401_0)
         injection ea_ with ea_ en_ ec_
         subst ea_
         subst ec_
         clear en_
         have ea_ := Option.some.inj (hv400_1.symm.trans hv401_1)
         injection ea_ with ea_ en_ ec_
         subst ea_
         subst ec_
         clear en_
         have ea_ := Option.some.inj (hv400_2.symm.trans hv401_2)
         injection ea_ with ea_ en_ ec_
         subst ea_
         subst ec_
         clear en_
         have p402 : 0 ≤ ((ji13) : Int) := oD (by first | (with_reducible assumption) | assumption)
         have q402 : (ji13) < (((rd_T96 l0 0).f2).length : Int) := oD (by first | (with_reducible assumption) | assumption)
         obtain ⟨ad402, A402_0, c402_0, e402, hx402_0, hl402_0, hi402_0⟩ := at_L3 HR401_2.out (ji13) p402 q402
         have hw402_0 := hx402_0
         have hv402_0 := hx402_0
         cases e402
         replace hx402_0 := (HB.out.cell (World.block_lt_of_cell? w _ hx402_0)).trans hx402_0
         have HR402_0 := aM hi402_0
         have HC402_0 := aM hl402_0
         clear hi402_0 hl402_0
         replace p402 := eq_true p402
         replace q402 := eq_true q402
         refine start_ (n := 23) (S := fun w' => w'.cell? ⟨gb393, 0, none⟩ = some (.slice A1_0 l1_0.length c1_0) ∧ w'.cell? ⟨gb393, 1, none⟩ = some (.slice A1_1 l1_1.length c1_1) ∧ w'.cell? ad400 = some (.slice A400_0 ((rd_T96 l0 0).f0).length c400_0) ∧ w'.cell? ⟨ad400.block, ad400.off + 1, none⟩ = some (.slice A400_1 ((rd_T96 l0 0).f1).length c400_1) ∧ w'.cell? ⟨ad400.block, ad400.off + 2, none⟩ = some (.slice (some ad402) ((rd_T96 l0 0).f2).length c400_2) ∧ w'.cell? ad400 = some (.slice A400_0 ((rd_T96 l0 0).f0).length c400_0) ∧ w'.cell? ⟨ad400.block, ad400.off + 1, none⟩ = some (.slice A400_1 ((rd_T96 l0 0).f1).length c400_1) ∧ w'.cell? ⟨ad400.block, ad400.off + 2, none⟩ = some (.slice (some ad402) ((rd_T96 l0 0).f2).length c400_2) ∧ w'.cell? (ad402.add ((ji13)).toNat) = some (.slice A402_0 (rd_L3 ((rd_T96 l0 0).f2) (ji13)).length c402_0)) (ds := []) #[false, false, false, false, false, false, false, false, false, false, false, false, false, false, false, false, false, false, false, false, false, false, false] (by kernel_rfl) rfl rfl ⟨(blk_cell BK393.out 0).trans rfl, (blk_cell BK393.out 1).trans rfl, ((HB.out.cell (World.block_lt_of_cell? w _ hw400_0)).trans hw400_0), ((HB.out.cell (World.block_lt_of_cell? w _ hw400_1)).trans hw400_1), ((HB.out.cell (World.block_lt_of_cell? w _ hw400_2)).trans hw400_2), ((HB.out.cell (World.block_lt_of_cell? w _ hw401_0)).trans hw401_0), ((HB.out.cell (World.block_lt_of_cell? w _ hw401_1)).trans hw401_1), ((HB.out.cell (World.block_lt_of_cell? w _ hw401_2)).trans hw401_2), ((HB.out.cell (World.block_lt_of_cell? w _ hw402_0)).trans hw402_0)⟩ (fun hHeld => ?_); refine with_tabW load_line_first.tab3 load_line_first.bits3 (fun HT_ HW_ => ?_)
         generalize wr.drew = w19 at HO_6 BK393 HB HR400_0 HR400_1 HR400_2 HR401_0 HR401_1 HR401_2 HR402_0 hx400_0 hx400_1 hx400_2 hx401_0 hx401_1 hx401_2 hx402_0 hHeld ⊢
         refine pure_ (i := 0) (N := some 16) (v := ?_) (a' := ?_) #[true, false, false, false, false, false, false, false, false, false, false, false, false, false, false, false, false, false, false, false, false, false, false] rfl rfl (any_of HT_.out (by kernel_rfl)) (fun _ _ _ h => h) (Or.inl ⟨by rfl, ?_⟩) ?_ ?_
         rotate_left
         ·intro w'
          go_simp
          with_reducible rfl
         rotate_left
         ·simp only [Act.put, sI, sZ, sS, i64_w, i32_w]
          rfl
         refine pure_ (i := 1) (N := some 17) (v := ?_) (a' := ?_) #[true, true, false, false, false, false, false, false, false, false, false, false, false, false, false, false, false, false, false, false, false, false, false] rfl rfl (any_of HT_.out (by kernel_rfl)) (fun _ _ _ h => h) (Or.inl ⟨by rfl, ?_⟩) ?_ ?_
         rotate_left
         ·intro w'
          go_simp
          with_reducible rfl
         rotate_left
         ·simp only [Act.put, sI, sZ, sS, i64_w, i32_w]
          rfl
         refine pure_ (i := 2) (N := some 18) (v := ?_) (a' := ?_) #[true, true, true, false, false, false, false, false, false, false, false, false, false, false, false, false, false, false, false, false, false, false, false] rfl rfl (any_of HT_.out (by kernel_rfl)) (fun _ _ _ h => h) (Or.inl ⟨by rfl, ?_⟩) ?_ ?_
         rotate_left
         ·intro w'
          go_simp
          with_reducible rfl
         rotate_left
         ·simp only [Act.put, sI, sZ, sS, i64_w, i32_w]
          rfl
         refine pure_ (i := 3) (N := some 19) (v := ?_) (a' := ?_) #[true, true, true, true, false, false, false, false, false, false, false, false, false, false, false, false, false, false, false, false, false, false, false] rfl rfl (any_of HT_.out (by kernel_rfl)) (fun _ _ _ h => h) (Or.inl ⟨by rfl, ?_⟩) ?_ ?_
         rotate_left
         ·intro w'
          go_simp
          with_reducible rfl
         rotate_left
         ·simp only [Act.put, sI, sZ, sS, i64_w, i32_w]
          rfl
         refine take_ (i := 4) (N := some 20) (v := ?_) (a' := ?_) #[true, true, true, true, true, false, false, false, false, false, false, false, false, false, false, false, false, false, false, false, false, false, false] rfl rfl (take_ofW HT_.out HW_.out (by kernel_rfl)) (fun _ _ _ h => h) (Or.inl ⟨by rfl, ?_⟩) hHeld ?_ ?_
         rotate_left
         ·rintro w' ⟨s0, s1, s2, s3, s4, s5, s6, s7, s8⟩
          go_simp
          with_reducible rfl
         rotate_left
         ·simp only [Act.put, sI, sZ, sS, i64_w, i32_w]
          rfl
         refine pure_ (i := 5) (N := some 21) (v := ?_) (a' := ?_) #[true, true, true, true, true, true, false, false, false, false, false, false, false, false, false, false, false, false, false, false, false, false, false] rfl rfl (any_of HT_.out (by kernel_rfl)) (fun _ _ _ h => h) (Or.inl ⟨by rfl, ?_⟩) ?_ ?_
         rotate_left
         ·intro w'
          go_simp
          with_reducible rfl
         rotate_left
         ·simp only [Act.put, sI, sZ, sS, i64_w, i32_w]
          rfl
         refine pure_ (i := 6) (N := some 22) (v := ?_) (a' := ?_) #[true, true, true, true, true, true, true, false, false, false, false, false, false, false, false, false, false, false, false, false, false, false, false] rfl rfl (any_of HT_.out (by kernel_rfl)) (fun _ _ _ h => h) (Or.inl ⟨by rfl, ?_⟩) ?_ ?_
         rotate_left
         ·intro w'
          go_simp
          with_reducible rfl
         rotate_left
         ·simp only [Act.put, sI, sZ, sS, i64_w, i32_w]
          rfl
         refine pure_ (i := 7) (N := some 23) (v := ?_) (a' := ?_) #[true, true, true, true, true, true, true, true, false, false, false, false, false, false, false, false, false, false, false, false, false, false, false] rfl rfl (any_of HT_.out (by kernel_rfl)) (fun _ _ _ h => h) (Or.inl ⟨by rfl, ?_⟩) ?_ ?_
         rotate_left
         ·intro w'
          go_simp
          with_reducible rfl
         rotate_left
         ·simp only [Act.put, sI, sZ, sS, i64_w, i32_w]
          rfl
         refine pure_ (i := 8) (N := some 24) (v := ?_) (a' := ?_) #[true, true, true, true, true, true, true, true, true, false, false, false, false, false, false, false, false, false, false, false, false, false, false] rfl rfl (any_of HT_.out (by kernel_rfl)) (fun _ _ _ h => h) (Or.inl ⟨by rfl, ?_⟩) ?_ ?_
         rotate_left
         ·intro w'
          go_simp
          with_reducible rfl
         rotate_left
         ·simp only [Act.put, sI, sZ, sS, i64_w, i32_w]
          rfl
         refine pure_ (i := 9) (N := some 25) (v := ?_) (a' := ?_) #[true, true, true, true, true, true, true, true, true, true, false, false, false, false, false, false, false, false, false, false, false, false, false] rfl rfl (any_of HT_.out (by kernel_rfl)) (fun _ _ _ h => h) (Or.inl ⟨by rfl, ?_⟩) ?_ ?_
         rotate_left
         ·intro w'
          go_simp
          with_reducible rfl
         rotate_left
         ·simp only [Act.put, sI, sZ, sS, i64_w, i32_w]
          rfl
         refine pure_ (i := 10) (N := some 26) (v := ?_) (a' := ?_) #[true, true, true, true, true, true, true, true, true, true, true, false, false, false, false, false, false, false, false, false, false, false, false] rfl rfl (any_of HT_.out (by kernel_rfl)) (fun _ _ _ h => h) (Or.inl ⟨by rfl, ?_⟩) ?_ ?_
         rotate_left
         ·intro w'
          go_simp
          with_reducible rfl
         rotate_left
         ·simp only [Act.put, sI, sZ, sS, i64_w, i32_w]
          rfl
         refine pure_ (i := 12) (N := some 28) (v := ?_) (a' := ?_) #[true, true, true, true, true, true, true, true, true, true, true, false, true, false, false, false, false, false, false, false, false, false, false] rfl rfl (any_of HT_.out (by kernel_rfl)) (fun _ _ _ h => h) (Or.inl ⟨by rfl, ?_⟩) ?_ ?_
         rotate_left
         ·intro w'
          go_simp
          with_reducible rfl
         rotate_left
         ·simp only [Act.put, sI, sZ, sS, i64_w, i32_w]
          rfl
         refine pure_ (i := 13) (N := some 29) (v := ?_) (a' := ?_) #[true, true, true, true, true, true, true, true, true, true, true, false, true, true, false, false, false, false, false, false, false, false, false] rfl rfl (any_of HT_.out (by kernel_rfl)) (fun _ _ _ h => h) (Or.inl ⟨by rfl, ?_⟩) ?_ ?_
         rotate_left
         ·intro w'
          go_simp
          with_reducible rfl
         rotate_left
         ·simp only [Act.put, sI, sZ, sS, i64_w, i32_w]
          rfl
         refine pure_ (i := 16) (N := some 32) (v := ?_) (a' := ?_) #[true, true, true, true, true, true, true, true, true, true, true, false, true, true, false, false, true, false, false, false, false, false, false] rfl rfl (any_of HT_.out (by kernel_rfl)) (fun _ _ _ h => h) (Or.inl ⟨by rfl, ?_⟩) ?_ ?_
         rotate_left
         ·intro w'
          go_simp
          with_reducible rfl
         rotate_left
         ·simp only [Act.put, sI, sZ, sS, i64_w, i32_w]
          rfl
         refine pure_ (i := 19) (N := some 35) (v := ?_) (a' := ?_) #[true, true, true, true, true, true, true, true, true, true, true, false, true, true, false, false, true, false, false, true, false, false, false] rfl rfl (any_of HT_.out (by kernel_rfl)) (fun _ _ _ h => h) (Or.inl ⟨by rfl, ?_⟩) ?_ ?_
         rotate_left
         ·intro w'
          go_simp
          with_reducible rfl
         rotate_left
         ·simp only [Act.put, sI, sZ, sS, i64_w, i32_w]
          rfl
         refine take_ (i := 11) (N := some 27) (v := ?_) (a' := ?_) #[true, true, true, true, true, true, true, true, true, true, true, true, true, true, false, false, true, false, false, true, false, false, false] rfl rfl (take_ofW HT_.out HW_.out (by kernel_rfl)) (fun _ _ _ h => h) (Or.inl ⟨by rfl, ?_⟩) hHeld ?_ ?_
         rotate_left
         ·rintro w' ⟨s0, s1, s2, s3, s4, s5, s6, s7, s8⟩
          go_simp
          with_reducible rfl
         rotate_left
         ·simp only [Act.put, sI, sZ, sS, i64_w, i32_w]
          rfl
         refine pure_ (i := 14) (N := some 30) (v := ?_) (a' := ?_) #[true, true, true, true, true, true, true, true, true, true, true, true, true, true, true, false, true, false, false, true, false, false, false] rfl rfl (any_of HT_.out (by kernel_rfl)) (fun _ _ _ h => h) (Or.inl ⟨by rfl, ?_⟩) ?_ ?_
         rotate_left
         ·intro w'
          go_simp
          with_reducible rfl
         rotate_left
         ·simp only [Act.put, sI, sZ, sS, i64_w, i32_w]
          rfl
         refine take_ (i := 15) (N := some 31) (v := ?_) (a' := ?_) #[true, true, true, true, true, true, true, true, true, true, true, true, true, true, true, true, true, false, false, true, false, false, false] rfl rfl (take_ofW HT_.out HW_.out (by kernel_rfl)) (fun _ _ _ h => h) (Or.inl ⟨by rfl, ?_⟩) hHeld ?_ ?_
         rotate_left
         ·rintro w' ⟨s0, s1, s2, s3, s4, s5, s6, s7, s8⟩
          go_simp
          with_reducible rfl
         rotate_left
         ·simp only [Act.put, sI, sZ, sS, i64_w, i32_w]
          rfl
         refine take_ (i := 17) (N := some 33) (v := ?_) (a' := ?_) #[true, true, true, true, true, true, true, true, true, true, true, true, true, true, true, true, true, true, false, true, false, false, false] rfl rfl (take_ofW HT_.out HW_.out (by kernel_rfl)) (fun _ _ _ h => h) (Or.inl ⟨by rfl, ?_⟩) hHeld ?_ ?_
         rotate_left
         ·rintro w' ⟨s0, s1, s2, s3, s4, s5, s6, s7, s8⟩
          go_simp
          with_reducible rfl
         rotate_left
         ·simp only [Act.put, sI, sZ, sS, i64_w, i32_w]
          rfl
         refine one_ (i := 18) (N := some 34) #[true, true, true, true, true, true, true, true, true, true, true, true, true, true, true, true, true, true, true, true, false, false, false] rfl rfl (one_of HT_.out (by kernel_rfl)) (by decide) (fun K hK => ?_)
         refine goes_ Try.func74 (by kernel_rfl) rfl #[.slice A402_0 (rd_L3 ((rd_T96 l0 0).f2) (ji13)).length c402_0, .slice A1_1 l1_1.length c1_1] (by rfl) rfl rfl (by (try simp only [mA, List.map_cons, List.map_nil]); first | done | (simp only [hji13]; rfl) | rfl | (simp only [List.length_drop, List.length_take]; rfl)) ?_
         with_reducible refine (nat_Mul.calls k1 _ _ (rd_L3 ((rd_T96 l0 0).f2) (ji13)) _ _ l1_1 t403 _ ?side1 ?side2 ?side3 ?side4 A16.out).mono ?_
         (case side1 => repeat (first | exact (Kd.C_below HR402_0.out HB.out) | (with_reducible refine cA ?_ _) | (with_reducible refine cN ?_ _) | (with_reducible refine cD ?_)))
         (case side2 => exact HC402_0.out)
         (case side3 => repeat (first | exact (Kd.C_below HR1_1.out HB.out) | (with_reducible refine cA ?_ _) | (with_reducible refine cN ?_ _) | (with_reducible refine cD ?_)))
         (case side4 => exact HC1_1.out)
         rintro e w20 ⟨v404, rfl, ho0, hb⟩
         refine ⟨_, rfl, ?_⟩
         have n0_ := aM (Kd.R_elder' (by (with_reducible repeat (first | apply rA | apply rN | apply rD)); exact HO_6.out) (Kd.R_base ho0) hb); have n1_ := aM (Kd.R_lower (Kd.R_new' ho0 (Kd.R_lt (by (with_reducible repeat (first | apply rA | apply rN | apply rD)); exact HO_6.out))) (below_size (by repeat (first | (with_reducible first | exact HB.out | apply bA | apply pN | apply bD | refine below_set ?_ GE393.out) | exact HB.out)))); have n2_ := aM (blk_below (g := gb393) (o := .cells #[.slice A1_0 l1_0.length c1_0, .slice A1_1 l1_1.length c1_1] 102 (0, 0)) (by (with_reducible repeat (first | refine kN ?_ _ | refine kD ?_ | refine kA ?_ _)); exact BK393.out) hb); have n3_ := aM (bS (by repeat (first | (with_reducible first | exact HB.out | apply bA | apply pN | apply bD | refine below_set ?_ GE393.out) | exact HB.out)) hb); clear HO_6 BK393 HB; have HO_6 := n0_; have HO405 := n1_; have BK393 := n2_; have HB := n3_; clear n0_ n1_ n2_ n3_
         (try clear hb)
         (try clear hb2)
         (try clear hk)
         (try clear hi)
         (try clear ho0)
         obtain ⟨Ao21, co21, eo21⟩ := Kd.R_slice HO405.out
         (first | subst eo21 | (injection eo21 with f1_ f2_ f3_; have f4_ := f1_.symm; have f5_ := f3_.symm; clear f1_ f2_ f3_; subst f4_; subst f5_))
         obtain ⟨Ao22, co22, eo22⟩ := Kd.R_slice HO_6.out
         (first | subst eo22 | (injection eo22 with f1_ f2_ f3_; have f4_ := f1_.symm; have f5_ := f3_.symm; clear f1_ f2_ f3_; subst f4_; subst f5_))
         refine hK.out _ _ ⟨(blk_cell BK393.out 0).trans rfl, (blk_cell BK393.out 1).trans rfl, ((HB.out.cell (World.block_lt_of_cell? w _ hw400_0)).trans hw400_0), ((HB.out.cell (World.block_lt_of_cell? w _ hw400_1)).trans hw400_1), ((HB.out.cell (World.block_lt_of_cell? w _ hw400_2)).trans hw400_2), ((HB.out.cell (World.block_lt_of_cell? w _ hw401_0)).trans hw401_0), ((HB.out.cell (World.block_lt_of_cell? w _ hw401_1)).trans hw401_1), ((HB.out.cell (World.block_lt_of_cell? w _ hw401_2)).trans hw401_2), ((HB.out.cell (World.block_lt_of_cell? w _ hw402_0)).trans hw402_0)⟩ (fun hHeld => ?_)
         clear hK K
         refine norm_ (a' := ?_) ?_ ?_
         rotate_left
         ·show Act.put _ (some 34) _ = _
          simp only [Act.put, sI, sZ, sS, i64_w, i32_w]
          rfl
         refine one_ (i := 20) (N := some 36) #[true, true, true, true, true, true, true, true, true, true, true, true, true, true, true, true, true, true, true, true, true, false, false] rfl rfl (one_of HT_.out (by kernel_rfl)) (by decide) (fun K hK => ?_)
         refine goes_ Try.func77 (by kernel_rfl) rfl #[.slice Ao21 t403.length co21, .slice Ao22 t397.length co22] (by rfl) rfl rfl (by (try simp only [mA, List.map_cons, List.map_nil]); first | done | rfl | (simp only [List.length_drop, List.length_take]; rfl)) ?_
         with_reducible refine (nat_Cmp.calls k1 _ _ t403 _ _ t397 t406 _ ?side1 ?side2 ?side3 ?side4 A17.out).mono ?_
         (case side1 => repeat (first | exact (Kd.R_reads' HO405.out).2.2 | (with_reducible refine cA ?_ _) | (with_reducible refine cN ?_ _) | (with_reducible refine cD ?_)))
         (case side2 => exact (Kd.R_reads' HO405.out).2.1)
         (case side3 => repeat (first | exact (Kd.R_reads' HO_6.out).2.2 | (with_reducible refine cA ?_ _) | (with_reducible refine cN ?_ _) | (with_reducible refine cD ?_)))
         (case side4 => exact (Kd.R_reads' HO_6.out).2.1)
         rintro e w' ⟨rfl, ⟨nd, rfl⟩⟩
         refine ⟨_, rfl, ?_⟩
         refine hK.out _ _ ⟨(blk_cell BK393.out 0).trans rfl, (blk_cell BK393.out 1).trans rfl, ((HB.out.cell (World.block_lt_of_cell? w _ hw400_0)).trans hw400_0), ((HB.out.cell (World.block_lt_of_cell? w _ hw400_1)).trans hw400_1), ((HB.out.cell (World.block_lt_of_cell? w _ hw400_2)).trans hw400_2), ((HB.out.cell (World.block_lt_of_cell? w _ hw401_0)).trans hw401_0), ((HB.out.cell (World.block_lt_of_cell? w _ hw401_1)).trans hw401_1), ((HB.out.cell (World.block_lt_of_cell? w _ hw401_2)).trans hw401_2), ((HB.out.cell (World.block_lt_of_cell? w _ hw402_0)).trans hw402_0)⟩ (fun hHeld => ?_)
         clear hK K
         refine norm_ (a' := ?_) ?_ ?_
         rotate_left
         ·show Act.put _ (some 36) _ = _
          simp only [Act.put, sI, sZ, sS, i64_w, i32_w]
          rfl
         refine pure_ (i := 21) (N := some 37) (v := ?_) (a' := ?_) #[true, true, true, true, true, true, true, true, true, true, true, true, true, true, true, true, true, true, true, true, true, true, false] rfl rfl (any_of HT_.out (by kernel_rfl)) (fun _ _ _ h => h) (Or.inl ⟨by rfl, ?_⟩) ?_ ?_
         rotate_left
         ·intro w'
          go_simp
          with_reducible rfl
         rotate_left
         ·simp only [Act.put, sI, sZ, sS, i64_w, i32_w]
          rfl
         refine pure_ (i := 22) (N := some 38) (v := ?_) (a' := ?_) #[true, true, true, true, true, true, true, true, true, true, true, true, true, true, true, true, true, true, true, true, true, true, true] rfl rfl (any_of HT_.out (by kernel_rfl)) (fun _ _ _ h => h) (Or.inl ⟨by rfl, ?_⟩) ?_ ?_
         rotate_left
         ·intro w'
          go_simp
          with_reducible rfl
         rotate_left
         ·simp only [Act.put, sI, sZ, sS, i64_w, i32_w]
          rfl
         refine done_ (done_of HT_.out (by kernel_rfl)) ?_
         try go_wp2
         go_roundg k1
         case measure => have := HK1.out; omega
         case rel => exact ⟨(ji13), (by first | rfl | (simp; done) | (simp only [← hji13] <;> (first | rfl | simp)) | (simp [*]; done)), (by first | exact H' | (have h_ := H'; simp only [← hji13] at h_; exact h_)), ⟨by have := HK1.out; omega⟩, ⟨by (with_reducible repeat (first | apply rA | apply rN | apply rD)); exact Kd.R_mono HO_6.out (fun _ hk => trivial)⟩, ⟨by (with_reducible repeat (first | refine kN ?_ _ | refine kD ?_ | refine kA ?_ _)); exact BK393.out⟩, ⟨by repeat (first | (with_reducible first | exact HB.out | apply bA | apply pN | apply bD | refine below_set ?_ GE393.out) | exact HB.out)⟩⟩
        ·rw [if_neg c18] at H
         have c18b0 : decide (t406 < 0) = false := decide_eq_false c18
         clear c18; have H' := aM H; clear H
         try go_wp2
         have n0_ := aM (rD HO_6.out); have n1_ := aM (kD BK393.out); have n2_ := aM (bD HB.out); clear HO_6 BK393 HB; have HO_6 := n0_; have BK393 := n1_; have HB := n2_; clear n0_ n1_ n2_
         have p400 : 0 ≤ (0 : Int) := (by omega)
         have q400 : 0 < (l0.length : Int) := oD (by first | (with_reducible assumption) | assumption)
         obtain ⟨ad400, A400_0, c400_0, A400_1, c400_1, A400_2, c400_2, e400, hx400_0, hx400_1, hx400_2, hl400_0, hi400_0, hl400_1, hi400_1, hl400_2, hi400_2⟩ := at_T96 HR0.out 0 p400 q400
         have hw400_2 := hx400_2
         (try rw [show ((0 : Int)).toNat = 0 from rfl] at hw400_2)
         (try rw [show 0 * 3 = 0 from rfl] at hw400_2)
         (try rw [Addr.add_zero'] at hw400_2)
         have hw400_1 := hx400_1
         (try rw [show ((0 : Int)).toNat = 0 from rfl] at hw400_1)
         (try rw [show 0 * 3 = 0 from rfl] at hw400_1)
         (try rw [Addr.add_zero'] at hw400_1)
         have hw400_0 := hx400_0
         (try rw [show ((0 : Int)).toNat = 0 from rfl] at hw400_0)
         (try rw [show 0 * 3 = 0 from rfl] at hw400_0)
         (try rw [Addr.add_zero'] at hw400_0)
         have hv400_0 := hx400_0
         have hv400_1 := hx400_1
         have hv400_2 := hx400_2
         cases e400
         have qi400 : (0 < l0.length) = True := eq_true (by omega)
         (try rw [show ((0 : Int)).toNat = 0 from rfl] at hx400_0)
         (try rw [show 0 * 3 = 0 from rfl] at hx400_0)
         (try rw [Addr.add_zero'] at hx400_0)
         (try rw [show ((0 : Int)).toNat = 0 from rfl] at hx400_1)
         (try rw [show 0 * 3 = 0 from rfl] at hx400_1)
         (try rw [Addr.add_zero'] at hx400_1)
         (try rw [show ((0 : Int)).toNat = 0 from rfl] at hx400_2)
         (try rw [show 0 * 3 = 0 from rfl] at hx400_2)
         (try rw [Addr.add_zero'] at hx400_2)
         replace hx400_0 := (HB.out.cell (World.block_lt_of_cell? w _ hx400_0)).trans hx400_0
         replace hx400_1 := (HB.out.cell (World.block_lt_of_cell? w _ hx400_1)).trans hx400_1
         replace hx400_2 := (HB.out.cell (World.block_lt_of_cell? w _ hx400_2)).trans hx400_2
         have HR400_0 := aM hi400_0
         have HC400_0 := aM hl400_0
         clear hi400_0 hl400_0
         have HR400_1 := aM hi400_1
         have HC400_1 := aM hl400_1
         clear hi400_1 hl400_1
         have HR400_2 := aM hi400_2
         have HC400_2 := aM hl400_2
         clear hi400_2 hl400_2
         replace p400 := eq_true p400
         replace q400 := eq_true q400
         have p401 : 0 ≤ (0 : Int) := (by omega)
         have q401 : 0 < (l0.length : Int) := oD (by first | (with_reducible assumption) | assumption)
         obtain ⟨ad401, A401_0, c401_0, A401_1, c401_1, A401_2, c401_2, e401, hx401_0, hx401_1, hx401_2, hl401_0, hi401_0, hl401_1, hi401_1, hl401_2, hi401_2⟩ := at_T96 HR0.out 0 p401 q401
         have hw401_2 := hx401_2
         (try rw [show ((0 : Int)).toNat = 0 from rfl] at hw401_2)
         (try rw [show 0 * 3 = 0 from rfl] at hw401_2)
         (try rw [Addr.add_zero'] at hw401_2)
         have hw401_1 := hx401_1
         (try rw [show ((0 : Int)).toNat = 0 from rfl] at hw401_1)
         (try rw [show 0 * 3 = 0 from rfl] at hw401_1)
         (try rw [Addr.add_zero'] at hw401_1)
         have hw401_0 := hx401_0
         (try rw [show ((0 : Int)).toNat = 0 from rfl] at hw401_0)
         (try rw [show 0 * 3 = 0 from rfl] at hw401_0)
         (try rw [Addr.add_zero'] at hw401_0)
         have hv401_0 := hx401_0
         have hv401_1 := hx401_1
         have hv401_2 := hx401_2
         obtain rfl : ad400 = ad401 := (by injection e401)
         have qi401 : (0 < l0.length) = True := eq_true (by omega)
         (try rw [show ((0 : Int)).toNat = 0 from rfl] at hx401_0)
         (try rw [show 0 * 3 = 0 from rfl] at hx401_0)
         (try rw [Addr.add_zero'] at hx401_0)
         (try rw [show ((0 : Int)).toNat = 0 from rfl] at hx401_1)
         (try rw [show 0 * 3 = 0 from rfl] at hx401_1)
         (try rw [Addr.add_zero'] at hx401_1)
         (try rw [show ((0 : Int)).toNat = 0 from rfl] at hx401_2)
         (try rw [show 0 * 3 = 0 from rfl] at hx401_2)
         (try rw [Addr.add_zero'] at hx401_2)
         replace hx401_0 := (HB.out.cell (World.block_lt_of_cell? w _ hx401_0)).trans hx401_0
         replace hx401_1 := (HB.out.cell (World.block_lt_of_cell? w _ hx401_1)).trans hx401_1
         replace hx401_2 := (HB.out.cell (World.block_lt_of_cell? w _ hx401_2)).trans hx401_2
         have HR401_0 := aM hi401_0
         have HC401_0 := aM hl401_0
         clear hi401_0 hl401_0
         have HR401_1 := aM hi401_1
         have HC401_1 := aM hl401_1
         clear hi401_1 hl401_1
         have HR401_2 := aM hi401_2
         have HC401_2 := aM hl401_2
         clear hi401_2 hl401_2
         replace p401 := eq_true p401
         replace q401 := eq_true q401
         have ea_ := Option.some.inj (hv400_0.symm.trans hv401_0)
         injection ea_ with ea_ en_ ec_
         subst ea_
         subst ec_
         clear en_
         have ea_ := Option.some.inj (hv400_1.symm.trans hv401_1)
         injection ea_ with ea_ en_ ec_
         subst ea_
         subst ec_
         clear en_
         have ea_ := Option.some.inj (hv400_2.symm.trans hv401_2)
         injection ea_ with ea_ en_ ec_
         subst ea_
         subst ec_
         clear en_
         have p402 : 0 ≤ ((ji13) : Int) := oD (by first | (with_reducible assumption) | assumption)
         have q402 : (ji13) < (((rd_T96 l0 0).f2).length : Int) := oD (by first | (with_reducible assumption) | assumption)
         obtain ⟨ad402, A402_0, c402_0, e402, hx402_0, hl402_0, hi402_0⟩ := at_L3 HR401_2.out (ji13) p402 q402
         have hw402_0 := hx402_0
         have hv402_0 := hx402_0
         cases e402
         replace hx402_0 := (HB.out.cell (World.block_lt_of_cell? w _ hx402_0)).trans hx402_0
         have HR402_0 := aM hi402_0
         have HC402_0 := aM hl402_0
         clear hi402_0 hl402_0
         replace p402 := eq_true p402
         replace q402 := eq_true q402
         refine start_ (n := 23) (S := fun w' => w'.cell? ⟨gb393, 0, none⟩ = some (.slice A1_0 l1_0.length c1_0) ∧ w'.cell? ⟨gb393, 1, none⟩ = some (.slice A1_1 l1_1.length c1_1) ∧ w'.cell? ad400 = some (.slice A400_0 ((rd_T96 l0 0).f0).length c400_0) ∧ w'.cell? ⟨ad400.block, ad400.off + 1, none⟩ = some (.slice A400_1 ((rd_T96 l0 0).f1).length c400_1) ∧ w'.cell? ⟨ad400.block, ad400.off + 2, none⟩ = some (.slice (some ad402) ((rd_T96 l0 0).f2).length c400_2) ∧ w'.cell? ad400 = some (.slice A400_0 ((rd_T96 l0 0).f0).length c400_0) ∧ w'.cell? ⟨ad400.block, ad400.off + 1, none⟩ = some (.slice A400_1 ((rd_T96 l0 0).f1).length c400_1) ∧ w'.cell? ⟨ad400.block, ad400.off + 2, none⟩ = some (.slice (some ad402) ((rd_T96 l0 0).f2).length c400_2) ∧ w'.cell? (ad402.add ((ji13)).toNat) = some (.slice A402_0 (rd_L3 ((rd_T96 l0 0).f2) (ji13)).length c402_0)) (ds := []) #[false, false, false, false, false, false, false, false, false, false, false, false, false, false, false, false, false, false, false, false, false, false, false] (by kernel_rfl) rfl rfl ⟨(blk_cell BK393.out 0).trans rfl, (blk_cell BK393.out 1).trans rfl, ((HB.out.cell (World.block_lt_of_cell? w _ hw400_0)).trans hw400_0), ((HB.out.cell (World.block_lt_of_cell? w _ hw400_1)).trans hw400_1), ((HB.out.cell (World.block_lt_of_cell? w _ hw400_2)).trans hw400_2), ((HB.out.cell (World.block_lt_of_cell? w _ hw401_0)).trans hw401_0), ((HB.out.cell (World.block_lt_of_cell? w _ hw401_1)).trans hw401_1), ((HB.out.cell (World.block_lt_of_cell? w _ hw401_2)).trans hw401_2), ((HB.out.cell (World.block_lt_of_cell? w _ hw402_0)).trans hw402_0)⟩ (fun hHeld => ?_); refine with_tabW load_line_first.tab3 load_line_first.bits3 (fun HT_ HW_ => ?_)
         generalize wr.drew = w23 at HO_6 BK393 HB HR400_0 HR400_1 HR400_2 HR401_0 HR401_1 HR401_2 HR402_0 hx400_0 hx400_1 hx400_2 hx401_0 hx401_1 hx401_2 hx402_0 hHeld ⊢
         refine pure_ (i := 0) (N := some 16) (v := ?_) (a' := ?_) #[true, false, false, false, false, false, false, false, false, false, false, false, false, false, false, false, false, false, false, false, false, false, false] rfl rfl (any_of HT_.out (by kernel_rfl)) (fun _ _ _ h => h) (Or.inl ⟨by rfl, ?_⟩) ?_ ?_
         rotate_left
         ·intro w'
          go_simp
          with_reducible rfl
         rotate_left
         ·simp only [Act.put, sI, sZ, sS, i64_w, i32_w]
          rfl
         refine pure_ (i := 1) (N := some 17) (v := ?_) (a' := ?_) #[true, true, false, false, false, false, false, false, false, false, false, false, false, false, false, false, false, false, false, false, false, false, false] rfl rfl (any_of HT_.out (by kernel_rfl)) (fun _ _ _ h => h) (Or.inl ⟨by rfl, ?_⟩) ?_ ?_
         rotate_left
         ·intro w'
          go_simp
          with_reducible rfl
         rotate_left
         ·simp only [Act.put, sI, sZ, sS, i64_w, i32_w]
          rfl
         refine pure_ (i := 2) (N := some 18) (v := ?_) (a' := ?_) #[true, true, true, false, false, false, false, false, false, false, false, false, false, false, false, false, false, false, false, false, false, false, false] rfl rfl (any_of HT_.out (by kernel_rfl)) (fun _ _ _ h => h) (Or.inl ⟨by rfl, ?_⟩) ?_ ?_
         rotate_left
         ·intro w'
          go_simp
          with_reducible rfl
         rotate_left
         ·simp only [Act.put, sI, sZ, sS, i64_w, i32_w]
          rfl
         refine pure_ (i := 3) (N := some 19) (v := ?_) (a' := ?_) #[true, true, true, true, false, false, false, false, false, false, false, false, false, false, false, false, false, false, false, false, false, false, false] rfl rfl (any_of HT_.out (by kernel_rfl)) (fun _ _ _ h => h) (Or.inl ⟨by rfl, ?_⟩) ?_ ?_
         rotate_left
         ·intro w'
          go_simp
          with_reducible rfl
         rotate_left
         ·simp only [Act.put, sI, sZ, sS, i64_w, i32_w]
          rfl
         refine take_ (i := 4) (N := some 20) (v := ?_) (a' := ?_) #[true, true, true, true, true, false, false, false, false, false, false, false, false, false, false, false, false, false, false, false, false, false, false] rfl rfl (take_ofW HT_.out HW_.out (by kernel_rfl)) (fun _ _ _ h => h) (Or.inl ⟨by rfl, ?_⟩) hHeld ?_ ?_
         rotate_left
         ·rintro w' ⟨s0, s1, s2, s3, s4, s5, s6, s7, s8⟩
          go_simp
          with_reducible rfl
         rotate_left
         ·simp only [Act.put, sI, sZ, sS, i64_w, i32_w]
          rfl
         refine pure_ (i := 5) (N := some 21) (v := ?_) (a' := ?_) #[true, true, true, true, true, true, false, false, false, false, false, false, false, false, false, false, false, false, false, false, false, false, false] rfl rfl (any_of HT_.out (by kernel_rfl)) (fun _ _ _ h => h) (Or.inl ⟨by rfl, ?_⟩) ?_ ?_
         rotate_left
         ·intro w'
          go_simp
          with_reducible rfl
         rotate_left
         ·simp only [Act.put, sI, sZ, sS, i64_w, i32_w]
          rfl
         refine pure_ (i := 6) (N := some 22) (v := ?_) (a' := ?_) #[true, true, true, true, true, true, true, false, false, false, false, false, false, false, false, false, false, false, false, false, false, false, false] rfl rfl (any_of HT_.out (by kernel_rfl)) (fun _ _ _ h => h) (Or.inl ⟨by rfl, ?_⟩) ?_ ?_
         rotate_left
         ·intro w'
          go_simp
          with_reducible rfl
         rotate_left
         ·simp only [Act.put, sI, sZ, sS, i64_w, i32_w]
          rfl
         refine pure_ (i := 7) (N := some 23) (v := ?_) (a' := ?_) #[true, true, true, true, true, true, true, true, false, false, false, false, false, false, false, false, false, false, false, false, false, false, false] rfl rfl (any_of HT_.out (by kernel_rfl)) (fun _ _ _ h => h) (Or.inl ⟨by rfl, ?_⟩) ?_ ?_
         rotate_left
         ·intro w'
          go_simp
          with_reducible rfl
         rotate_left
         ·simp only [Act.put, sI, sZ, sS, i64_w, i32_w]
          rfl
         refine pure_ (i := 8) (N := some 24) (v := ?_) (a' := ?_) #[true, true, true, true, true, true, true, true, true, false, false, false, false, false, false, false, false, false, false, false, false, false, false] rfl rfl (any_of HT_.out (by kernel_rfl)) (fun _ _ _ h => h) (Or.inl ⟨by rfl, ?_⟩) ?_ ?_
         rotate_left
         ·intro w'
          go_simp
          with_reducible rfl
         rotate_left
         ·simp only [Act.put, sI, sZ, sS, i64_w, i32_w]
          rfl
         refine pure_ (i := 9) (N := some 25) (v := ?_) (a' := ?_) #[true, true, true, true, true, true, true, true, true, true, false, false, false, false, false, false, false, false, false, false, false, false, false] rfl rfl (any_of HT_.out (by kernel_rfl)) (fun _ _ _ h => h) (Or.inl ⟨by rfl, ?_⟩) ?_ ?_
         rotate_left
         ·intro w'
          go_simp
          with_reducible rfl
         rotate_left
         ·simp only [Act.put, sI, sZ, sS, i64_w, i32_w]
          rfl
         refine pure_ (i := 10) (N := some 26) (v := ?_) (a' := ?_) #[true, true, true, true, true, true, true, true, true, true, true, false, false, false, false, false, false, false, false, false, false, false, false] rfl rfl (any_of HT_.out (by kernel_rfl)) (fun _ _ _ h => h) (Or.inl ⟨by rfl, ?_⟩) ?_ ?_
         rotate_left
         ·intro w'
          go_simp
          with_reducible rfl
         rotate_left
         ·simp only [Act.put, sI, sZ, sS, i64_w, i32_w]
          rfl
         refine pure_ (i := 12) (N := some 28) (v := ?_) (a' := ?_) #[true, true, true, true, true, true, true, true, true, true, true, false, true, false, false, false, false, false, false, false, false, false, false] rfl rfl (any_of HT_.out (by kernel_rfl)) (fun _ _ _ h => h) (Or.inl ⟨by rfl, ?_⟩) ?_ ?_
         rotate_left
         ·intro w'
          go_simp
          with_reducible rfl
         rotate_left
         ·simp only [Act.put, sI, sZ, sS, i64_w, i32_w]
          rfl
         refine pure_ (i := 13) (N := some 29) (v := ?_) (a' := ?_) #[true, true, true, true, true, true, true, true, true, true, true, false, true, true, false, false, false, false, false, false, false, false, false] rfl rfl (any_of HT_.out (by kernel_rfl)) (fun _ _ _ h => h) (Or.inl ⟨by rfl, ?_⟩) ?_ ?_
         rotate_left
         ·intro w'
          go_simp
          with_reducible rfl
         rotate_left
         ·simp only [Act.put, sI, sZ, sS, i64_w, i32_w]
          rfl
         refine pure_ (i := 16) (N := some 32) (v := ?_) (a' := ?_) #[true, true, true, true, true, true, true, true, true, true, true, false, true, true, false, false, true, false, false, false, false, false, false] rfl rfl (any_of HT_.out (by kernel_rfl)) (fun _ _ _ h => h) (Or.inl ⟨by rfl, ?_⟩) ?_ ?_
         rotate_left
         ·intro w'
          go_simp
          with_reducible rfl
         rotate_left
         ·simp only [Act.put, sI, sZ, sS, i64_w, i32_w]
          rfl
         refine pure_ (i := 19) (N := some 35) (v := ?_) (a' := ?_) #[true, true, true, true, true, true, true, true, true, true, true, false, true, true, false, false, true, false, false, true, false, false, false] rfl rfl (any_of HT_.out (by kernel_rfl)) (fun _ _ _ h => h) (Or.inl ⟨by rfl, ?_⟩) ?_ ?_
         rotate_left
         ·intro w'
          go_simp
          with_reducible rfl
         rotate_left
         ·simp only [Act.put, sI, sZ, sS, i64_w, i32_w]
          rfl
         refine take_ (i := 11) (N := some 27) (v := ?_) (a' := ?_) #[true, true, true, true, true, true, true, true, true, true, true, true, true, true, false, false, true, false, false, true, false, false, false] rfl rfl (take_ofW HT_.out HW_.out (by kernel_rfl)) (fun _ _ _ h => h) (Or.inl ⟨by rfl, ?_⟩) hHeld ?_ ?_
         rotate_left
         ·rintro w' ⟨s0, s1, s2, s3, s4, s5, s6, s7, s8⟩
          go_simp
          with_reducible rfl
         rotate_left
         ·simp only [Act.put, sI, sZ, sS, i64_w, i32_w]
          rfl
         refine pure_ (i := 14) (N := some 30) (v := ?_) (a' := ?_) #[true, true, true, true, true, true, true, true, true, true, true, true, true, true, true, false, true, false, false, true, false, false, false] rfl rfl (any_of HT_.out (by kernel_rfl)) (fun _ _ _ h => h) (Or.inl ⟨by rfl, ?_⟩) ?_ ?_
         rotate_left
         ·intro w'
          go_simp
          with_reducible rfl
         rotate_left
         ·simp only [Act.put, sI, sZ, sS, i64_w, i32_w]
          rfl
         refine take_ (i := 15) (N := some 31) (v := ?_) (a' := ?_) #[true, true, true, true, true, true, true, true, true, true, true, true, true, true, true, true, true, false, false, true, false, false, false] rfl rfl (take_ofW HT_.out HW_.out (by kernel_rfl)) (fun _ _ _ h => h) (Or.inl ⟨by rfl, ?_⟩) hHeld ?_ ?_
         rotate_left
         ·rintro w' ⟨s0, s1, s2, s3, s4, s5, s6, s7, s8⟩
          go_simp
          with_reducible rfl
         rotate_left
         ·simp only [Act.put, sI, sZ, sS, i64_w, i32_w]
          rfl
         refine take_ (i := 17) (N := some 33) (v := ?_) (a' := ?_) #[true, true, true, true, true, true, true, true, true, true, true, true, true, true, true, true, true, true, false, true, false, false, false] rfl rfl (take_ofW HT_.out HW_.out (by kernel_rfl)) (fun _ _ _ h => h) (Or.inl ⟨by rfl, ?_⟩) hHeld ?_ ?_
         rotate_left
         ·rintro w' ⟨s0, s1, s2, s3, s4, s5, s6, s7, s8⟩
          go_simp
          with_reducible rfl
         rotate_left
         ·simp only [Act.put, sI, sZ, sS, i64_w, i32_w]
          rfl
         refine one_ (i := 18) (N := some 34) #[true, true, true, true, true, true, true, true, true, true, true, true, true, true, true, true, true, true, true, true, false, false, false] rfl rfl (one_of HT_.out (by kernel_rfl)) (by decide) (fun K hK => ?_)
         refine goes_ Try.func74 (by kernel_rfl) rfl #[.slice A402_0 (rd_L3 ((rd_T96 l0 0).f2) (ji13)).length c402_0, .slice A1_1 l1_1.length c1_1] (by rfl) rfl rfl (by (try simp only [mA, List.map_cons, List.map_nil]); first | done | (simp only [hji13]; rfl) | rfl | (simp only [List.length_drop, List.length_take]; rfl)) ?_
         with_reducible refine (nat_Mul.calls k1 _ _ (rd_L3 ((rd_T96 l0 0).f2) (ji13)) _ _ l1_1 t403 _ ?side1 ?side2 ?side3 ?side4 A16.out).mono ?_
         (case side1 => repeat (first | exact (Kd.C_below HR402_0.out HB.out) | (with_reducible refine cA ?_ _) | (with_reducible refine cN ?_ _) | (with_reducible refine cD ?_)))
         (case side2 => exact HC402_0.out)
         (case side3 => repeat (first | exact (Kd.C_below HR1_1.out HB.out) | (with_reducible refine cA ?_ _) | (with_reducible refine cN ?_ _) | (with_reducible refine cD ?_)))
         (case side4 => exact HC1_1.out)
         rintro e w24 ⟨v404, rfl, ho0, hb⟩
         refine ⟨_, rfl, ?_⟩
         have n0_ := aM (Kd.R_elder' (by (with_reducible repeat (first | apply rA | apply rN | apply rD)); exact HO_6.out) (Kd.R_base ho0) hb); have n1_ := aM (Kd.R_lower (Kd.R_new' ho0 (Kd.R_lt (by (with_reducible repeat (first | apply rA | apply rN | apply rD)); exact HO_6.out))) (below_size (by repeat (first | (with_reducible first | exact HB.out | apply bA | apply pN | apply bD | refine below_set ?_ GE393.out) | exact HB.out)))); have n2_ := aM (blk_below (g := gb393) (o := .cells #[.slice A1_0 l1_0.length c1_0, .slice A1_1 l1_1.length c1_1] 102 (0, 0)) (by (with_reducible repeat (first | refine kN ?_ _ | refine kD ?_ | refine kA ?_ _)); exact BK393.out) hb); have n3_ := aM (bS (by repeat (first | (with_reducible first | exact HB.out | apply bA | apply pN | apply bD | refine below_set ?_ GE393.out) | exact HB.out)) hb); clear HO_6 BK393 HB; have HO_6 := n0_; have HO405 := n1_; have BK393 := n2_; have HB := n3_; clear n0_ n1_ n2_ n3_
         (try clear hb)
         (try clear hb2)
         (try clear hk)
         (try clear hi)
         (try clear ho0)
         obtain ⟨Ao25, co25, eo25⟩ := Kd.R_slice HO405.out
         (first | subst eo25 | (injection eo25 with f1_ f2_ f3_; have f4_ := f1_.symm; have f5_ := f3_.symm; clear f1_ f2_ f3_; subst f4_; subst f5_))
         obtain ⟨Ao26, co26, eo26⟩ := Kd.R_slice HO_6.out
         (first | subst eo26 | (injection eo26 with f1_ f2_ f3_; have f4_ := f1_.symm; have f5_ := f3_.symm; clear f1_ f2_ f3_; subst f4_; subst f5_))
         refine hK.out _ _ ⟨(blk_cell BK393.out 0).trans rfl, (blk_cell BK393.out 1).trans rfl, ((HB.out.cell (World.block_lt_of_cell? w _ hw400_0)).trans hw400_0), ((HB.out.cell (World.block_lt_of_cell? w _ hw400_1)).trans hw400_1), ((HB.out.cell (World.block_lt_of_cell? w _ hw400_2)).trans hw400_2), ((HB.out.cell (World.block_lt_of_cell? w _ hw401_0)).trans hw401_0), ((HB.out.cell (World.block_lt_of_cell? w _ hw401_1)).trans hw401_1), ((HB.out.cell (World.block_lt_of_cell? w _ hw401_2)).trans hw401_2), ((HB.out.cell (World.block_lt_of_cell? w _ hw402_0)).trans hw402_0)⟩ (fun hHeld => ?_)
         clear hK K
         refine norm_ (a' := ?_) ?_ ?_
         rotate_left
         ·show Act.put _ (some 34) _ = _
          simp only [Act.put, sI, sZ, sS, i64_w, i32_w]
          rfl
         refine one_ (i := 20) (N := some 36) #[true, true, true, true, true, true, true, true, true, true, true, true, true, true, true, true, true, true, true, true, true, false, false] rfl rfl (one_of HT_.out (by kernel_rfl)) (by decide) (fun K hK => ?_)
         refine goes_ Try.func77 (by kernel_rfl) rfl #[.slice Ao25 t403.length co25, .slice Ao26 t397.length co26] (by rfl) rfl rfl (by (try simp only [mA, List.map_cons, List.map_nil]); first | done | rfl | (simp only [List.length_drop, List.length_take]; rfl)) ?_
         with_reducible refine (nat_Cmp.calls k1 _ _ t403 _ _ t397 t406 _ ?side1 ?side2 ?side3 ?side4 A17.out).mono ?_
         (case side1 => repeat (first | exact (Kd.R_reads' HO405.out).2.2 | (with_reducible refine cA ?_ _) | (with_reducible refine cN ?_ _) | (with_reducible refine cD ?_)))
         (case side2 => exact (Kd.R_reads' HO405.out).2.1)
         (case side3 => repeat (first | exact (Kd.R_reads' HO_6.out).2.2 | (with_reducible refine cA ?_ _) | (with_reducible refine cN ?_ _) | (with_reducible refine cD ?_)))
         (case side4 => exact (Kd.R_reads' HO_6.out).2.1)
         rintro e w' ⟨rfl, ⟨nd, rfl⟩⟩
         refine ⟨_, rfl, ?_⟩
         refine hK.out _ _ ⟨(blk_cell BK393.out 0).trans rfl, (blk_cell BK393.out 1).trans rfl, ((HB.out.cell (World.block_lt_of_cell? w _ hw400_0)).trans hw400_0), ((HB.out.cell (World.block_lt_of_cell? w _ hw400_1)).trans hw400_1), ((HB.out.cell (World.block_lt_of_cell? w _ hw400_2)).trans hw400_2), ((HB.out.cell (World.block_lt_of_cell? w _ hw401_0)).trans hw401_0), ((HB.out.cell (World.block_lt_of_cell? w _ hw401_1)).trans hw401_1), ((HB.out.cell (World.block_lt_of_cell? w _ hw401_2)).trans hw401_2), ((HB.out.cell (World.block_lt_of_cell? w _ hw402_0)).trans hw402_0)⟩ (fun hHeld => ?_)
         clear hK K
         refine norm_ (a' := ?_) ?_ ?_
         rotate_left
         ·show Act.put _ (some 36) _ = _
          simp only [Act.put, sI, sZ, sS, i64_w, i32_w]
          rfl
         refine pure_ (i := 21) (N := some 37) (v := ?_) (a' := ?_) #[true, true, true, true, true, true, true, true, true, true, true, true, true, true, true, true, true, true, true, true, true, true, false] rfl rfl (any_of HT_.out (by kernel_rfl)) (fun _ _ _ h => h) (Or.inl ⟨by rfl, ?_⟩) ?_ ?_
         rotate_left
         ·intro w'
          go_simp
          with_reducible rfl
         rotate_left
         ·simp only [Act.put, sI, sZ, sS, i64_w, i32_w]
          rfl
         refine pure_ (i := 22) (N := some 38) (v := ?_) (a' := ?_) #[true, true, true, true, true, true, true, true, true, true, true, true, true, true, true, true, true, true, true, true, true, true, true] rfl rfl (any_of HT_.out (by kernel_rfl)) (fun _ _ _ h => h) (Or.inl ⟨by rfl, ?_⟩) ?_ ?_
         rotate_left
         ·intro w'
          go_simp
          with_reducible rfl
         rotate_left
         ·simp only [Act.put, sI, sZ, sS, i64_w, i32_w]
          rfl
         refine done_ (done_of HT_.out (by kernel_rfl)) ?_
         try go_wp2
         go_meet
         case rel => exact ⟨_, (x7_1), (by first | rfl | (simp; done) | (simp [*]; done)), (by first | exact H' | (have h_ := H'; simp only [← hji13] at h_; exact h_)), ⟨by have := HK1.out; first | omega | exact Nat.le_refl _⟩, ⟨by (with_reducible repeat (first | refine kN ?_ _ | refine kD ?_ | refine kA ?_ _)); exact BK393.out⟩, ⟨by repeat (first | (with_reducible first | exact HB.out | apply bA | apply pN | apply bD | refine below_set ?_ GE393.out) | exact HB.out)⟩⟩
       ·rw [if_neg c15] at H
        exact absurd H (by simp)
      ·rw [if_neg c14] at H
       exact absurd H (by simp)
     ·rw [if_neg c12] at H
      have c12b0 : decide (x7_1 < (((rd_T96 l0 0).f0).length : Int)) = false := decide_eq_false c12
      clear c12; have H' := aM H; clear H
      try go_wp2
      have n0_ := aM (rD HO_6.out); have n1_ := aM (kD BK393.out); have n2_ := aM (bD HB.out); clear HO_6 BK393 HB; have HO_6 := n0_; have BK393 := n1_; have HB := n2_; clear n0_ n1_ n2_
      have p400 : 0 ≤ (0 : Int) := (by omega)
      have q400 : 0 < (l0.length : Int) := oD (by first | (with_reducible assumption) | assumption)
      obtain ⟨ad400, A400_0, c400_0, A400_1, c400_1, A400_2, c400_2, e400, hx400_0, hx400_1, hx400_2, hl400_0, hi400_0, hl400_1, hi400_1, hl400_2, hi400_2⟩ := at_T96 HR0.out 0 p400 q400
      have hw400_2 := hx400_2
      (try rw [show ((0 : Int)).toNat = 0 from rfl] at hw400_2)
      (try rw [show 0 * 3 = 0 from rfl] at hw400_2)
      (try rw [Addr.add_zero'] at hw400_2)
      have hw400_1 := hx400_1
      (try rw [show ((0 : Int)).toNat = 0 from rfl] at hw400_1)
      (try rw [show 0 * 3 = 0 from rfl] at hw400_1)
      (try rw [Addr.add_zero'] at hw400_1)
      have hw400_0 := hx400_0
      (try rw [show ((0 : Int)).toNat = 0 from rfl] at hw400_0)
      (try rw [show 0 * 3 = 0 from rfl] at hw400_0)
      (try rw [Addr.add_zero'] at hw400_0)
      have hv400_0 := hx400_0
      have hv400_1 := hx400_1
      have hv400_2 := hx400_2
      cases e400
      have qi400 : (0 < l0.length) = True := eq_true (by omega)
      (try rw [show ((0 : Int)).toNat = 0 from rfl] at hx400_0)
      (try rw [show 0 * 3 = 0 from rfl] at hx400_0)
      (try rw [Addr.add_zero'] at hx400_0)
      (try rw [show ((0 : Int)).toNat = 0 from rfl] at hx400_1)
      (try rw [show 0 * 3 = 0 from rfl] at hx400_1)
      (try rw [Addr.add_zero'] at hx400_1)
      (try rw [show ((0 : Int)).toNat = 0 from rfl] at hx400_2)
      (try rw [show 0 * 3 = 0 from rfl] at hx400_2)
      (try rw [Addr.add_zero'] at hx400_2)
      replace hx400_0 := (HB.out.cell (World.block_lt_of_cell? w _ hx400_0)).trans hx400_0
      replace hx400_1 := (HB.out.cell (World.block_lt_of_cell? w _ hx400_1)).trans hx400_1
      replace hx400_2 := (HB.out.cell (World.block_lt_of_cell? w _ hx400_2)).trans hx400_2
      have HR400_0 := aM hi400_0
      have HC400_0 := aM hl400_0
      clear hi400_0 hl400_0
      have HR400_1 := aM hi400_1
      have HC400_1 := aM hl400_1
      clear hi400_1 hl400_1
      have HR400_2 := aM hi400_2
      have HC400_2 := aM hl400_2
      clear hi400_2 hl400_2
      replace p400 := eq_true p400
      replace q400 := eq_true q400
      refine start_ (n := 23) (S := fun w' => w'.cell? ad400 = some (.slice A400_0 ((rd_T96 l0 0).f0).length c400_0) ∧ w'.cell? ⟨ad400.block, ad400.off + 1, none⟩ = some (.slice A400_1 ((rd_T96 l0 0).f1).length c400_1) ∧ w'.cell? ⟨ad400.block, ad400.off + 2, none⟩ = some (.slice A400_2 ((rd_T96 l0 0).f2).length c400_2)) (ds := []) #[false, false, false, false, false, false, false, false, false, false, false, false, false, false, false, false, false, false, false, false, false, false, false] (by kernel_rfl) rfl rfl ⟨((HB.out.cell (World.block_lt_of_cell? w _ hw400_0)).trans hw400_0), ((HB.out.cell (World.block_lt_of_cell? w _ hw400_1)).trans hw400_1), ((HB.out.cell (World.block_lt_of_cell? w _ hw400_2)).trans hw400_2)⟩ (fun hHeld => ?_); refine with_tabW load_line_first.tab3 load_line_first.bits3 (fun HT_ HW_ => ?_)
      generalize wr.drew = w27 at HO_6 BK393 HB HR400_0 HR400_1 HR400_2 hx400_0 hx400_1 hx400_2 hHeld ⊢
      refine pure_ (i := 0) (N := some 16) (v := ?_) (a' := ?_) #[true, false, false, false, false, false, false, false, false, false, false, false, false, false, false, false, false, false, false, false, false, false, false] rfl rfl (any_of HT_.out (by kernel_rfl)) (fun _ _ _ h => h) (Or.inl ⟨by rfl, ?_⟩) ?_ ?_
      rotate_left
      ·intro w'
       go_simp
       with_reducible rfl
      rotate_left
      ·simp only [Act.put, sI, sZ, sS, i64_w, i32_w]
       rfl
      refine pure_ (i := 1) (N := some 17) (v := ?_) (a' := ?_) #[true, true, false, false, false, false, false, false, false, false, false, false, false, false, false, false, false, false, false, false, false, false, false] rfl rfl (any_of HT_.out (by kernel_rfl)) (fun _ _ _ h => h) (Or.inl ⟨by rfl, ?_⟩) ?_ ?_
      rotate_left
      ·intro w'
       go_simp
       with_reducible rfl
      rotate_left
      ·simp only [Act.put, sI, sZ, sS, i64_w, i32_w]
       rfl
      refine pure_ (i := 2) (N := some 18) (v := ?_) (a' := ?_) #[true, true, true, false, false, false, false, false, false, false, false, false, false, false, false, false, false, false, false, false, false, false, false] rfl rfl (any_of HT_.out (by kernel_rfl)) (fun _ _ _ h => h) (Or.inl ⟨by rfl, ?_⟩) ?_ ?_
      rotate_left
      ·intro w'
       go_simp
       with_reducible rfl
      rotate_left
      ·simp only [Act.put, sI, sZ, sS, i64_w, i32_w]
       rfl
      refine pure_ (i := 3) (N := some 19) (v := ?_) (a' := ?_) #[true, true, true, true, false, false, false, false, false, false, false, false, false, false, false, false, false, false, false, false, false, false, false] rfl rfl (any_of HT_.out (by kernel_rfl)) (fun _ _ _ h => h) (Or.inl ⟨by rfl, ?_⟩) ?_ ?_
      rotate_left
      ·intro w'
       go_simp
       with_reducible rfl
      rotate_left
      ·simp only [Act.put, sI, sZ, sS, i64_w, i32_w]
       rfl
      refine take_ (i := 4) (N := some 20) (v := ?_) (a' := ?_) #[true, true, true, true, true, false, false, false, false, false, false, false, false, false, false, false, false, false, false, false, false, false, false] rfl rfl (take_ofW HT_.out HW_.out (by kernel_rfl)) (fun _ _ _ h => h) (Or.inl ⟨by rfl, ?_⟩) hHeld ?_ ?_
      rotate_left
      ·rintro w' ⟨s0, s1, s2⟩
       go_simp
       with_reducible rfl
      rotate_left
      ·simp only [Act.put, sI, sZ, sS, i64_w, i32_w]
       rfl
      refine pure_ (i := 5) (N := some 21) (v := ?_) (a' := ?_) #[true, true, true, true, true, true, false, false, false, false, false, false, false, false, false, false, false, false, false, false, false, false, false] rfl rfl (any_of HT_.out (by kernel_rfl)) (fun _ _ _ h => h) (Or.inl ⟨by rfl, ?_⟩) ?_ ?_
      rotate_left
      ·intro w'
       go_simp
       with_reducible rfl
      rotate_left
      ·simp only [Act.put, sI, sZ, sS, i64_w, i32_w]
       rfl
      refine pure_ (i := 6) (N := some 22) (v := ?_) (a' := ?_) #[true, true, true, true, true, true, true, false, false, false, false, false, false, false, false, false, false, false, false, false, false, false, false] rfl rfl (any_of HT_.out (by kernel_rfl)) (fun _ _ _ h => h) (Or.inl ⟨by rfl, ?_⟩) ?_ ?_
      rotate_left
      ·intro w'
       go_simp
       with_reducible rfl
      rotate_left
      ·simp only [Act.put, sI, sZ, sS, i64_w, i32_w]
       rfl
      refine pure_ (i := 7) (N := some 23) (v := ?_) (a' := ?_) #[true, true, true, true, true, true, true, true, false, false, false, false, false, false, false, false, false, false, false, false, false, false, false] rfl rfl (any_of HT_.out (by kernel_rfl)) (fun _ _ _ h => h) (Or.inl ⟨by rfl, ?_⟩) ?_ ?_
      rotate_left
      ·intro w'
       go_simp
       with_reducible rfl
      rotate_left
      ·simp only [Act.put, sI, sZ, sS, i64_w, i32_w]
       rfl
      refine pure_ (i := 8) (N := some 24) (v := undef) (a' := ?_) #[true, true, true, true, true, true, true, true, true, false, false, false, false, false, false, false, false, false, false, false, false, false, false] rfl rfl (any_of HT_.out (by kernel_rfl)) (fun _ _ _ h => h) (Or.inr ⟨by rfl, rfl⟩) ?_ ?_
      rotate_left
      ·simp only [Act.put, sI, sZ, sS, i64_w, i32_w]
       rfl
      refine pure_ (i := 9) (N := some 25) (v := undef) (a' := ?_) #[true, true, true, true, true, true, true, true, true, true, false, false, false, false, false, false, false, false, false, false, false, false, false] rfl rfl (any_of HT_.out (by kernel_rfl)) (fun _ _ _ h => h) (Or.inr ⟨by rfl, rfl⟩) ?_ ?_
      rotate_left
      ·simp only [Act.put, sI, sZ, sS, i64_w, i32_w]
       rfl
      refine pure_ (i := 10) (N := some 26) (v := undef) (a' := ?_) #[true, true, true, true, true, true, true, true, true, true, true, false, false, false, false, false, false, false, false, false, false, false, false] rfl rfl (any_of HT_.out (by kernel_rfl)) (fun _ _ _ h => h) (Or.inr ⟨by rfl, rfl⟩) ?_ ?_
      rotate_left
      ·simp only [Act.put, sI, sZ, sS, i64_w, i32_w]
       rfl
      refine pure_ (i := 11) (N := some 27) (v := undef) (a' := ?_) #[true, true, true, true, true, true, true, true, true, true, true, true, false, false, false, false, false, false, false, false, false, false, false] rfl rfl (any_of HT_.out (by kernel_rfl)) (fun _ _ _ h => h) (Or.inr ⟨by rfl, rfl⟩) ?_ ?_
      rotate_left
      ·simp only [Act.put, sI, sZ, sS, i64_w, i32_w]
       rfl
      refine pure_ (i := 12) (N := some 28) (v := undef) (a' := ?_) #[true, true, true, true, true, true, true, true, true, true, true, true, true, false, false, false, false, false, false, false, false, false, false] rfl rfl (any_of HT_.out (by kernel_rfl)) (fun _ _ _ h => h) (Or.inr ⟨by rfl, rfl⟩) ?_ ?_
      rotate_left
      ·simp only [Act.put, sI, sZ, sS, i64_w, i32_w]
       rfl
      refine pure_ (i := 13) (N := some 29) (v := undef) (a' := ?_) #[true, true, true, true, true, true, true, true, true, true, true, true, true, true, false, false, false, false, false, false, false, false, false] rfl rfl (any_of HT_.out (by kernel_rfl)) (fun _ _ _ h => h) (Or.inr ⟨by rfl, rfl⟩) ?_ ?_
      rotate_left
      ·simp only [Act.put, sI, sZ, sS, i64_w, i32_w]
       rfl
      refine pure_ (i := 14) (N := some 30) (v := undef) (a' := ?_) #[true, true, true, true, true, true, true, true, true, true, true, true, true, true, true, false, false, false, false, false, false, false, false] rfl rfl (any_of HT_.out (by kernel_rfl)) (fun _ _ _ h => h) (Or.inr ⟨by rfl, rfl⟩) ?_ ?_
      rotate_left
      ·simp only [Act.put, sI, sZ, sS, i64_w, i32_w]
       rfl
      refine pure_ (i := 15) (N := some 31) (v := undef) (a' := ?_) #[true, true, true, true, true, true, true, true, true, true, true, true, true, true, true, true, false, false, false, false, false, false, false] rfl rfl (any_of HT_.out (by kernel_rfl)) (fun _ _ _ h => h) (Or.inr ⟨by rfl, rfl⟩) ?_ ?_
      rotate_left
      ·simp only [Act.put, sI, sZ, sS, i64_w, i32_w]
       rfl
      refine pure_ (i := 16) (N := some 32) (v := undef) (a' := ?_) #[true, true, true, true, true, true, true, true, true, true, true, true, true, true, true, true, true, false, false, false, false, false, false] rfl rfl (any_of HT_.out (by kernel_rfl)) (fun _ _ _ h => h) (Or.inr ⟨by rfl, rfl⟩) ?_ ?_
      rotate_left
      ·simp only [Act.put, sI, sZ, sS, i64_w, i32_w]
       rfl
      refine pure_ (i := 17) (N := some 33) (v := undef) (a' := ?_) #[true, true, true, true, true, true, true, true, true, true, true, true, true, true, true, true, true, true, false, false, false, false, false] rfl rfl (any_of HT_.out (by kernel_rfl)) (fun _ _ _ h => h) (Or.inr ⟨by rfl, rfl⟩) ?_ ?_
      rotate_left
      ·simp only [Act.put, sI, sZ, sS, i64_w, i32_w]
       rfl
      refine pure_ (i := 18) (N := some 34) (v := undef) (a' := ?_) #[true, true, true, true, true, true, true, true, true, true, true, true, true, true, true, true, true, true, true, false, false, false, false] rfl rfl (any_of HT_.out (by kernel_rfl)) (fun _ _ _ h => h) (Or.inr ⟨by rfl, rfl⟩) ?_ ?_
      rotate_left
      ·simp only [Act.put, sI, sZ, sS, i64_w, i32_w]
       rfl
      refine pure_ (i := 19) (N := some 35) (v := undef) (a' := ?_) #[true, true, true, true, true, true, true, true, true, true, true, true, true, true, true, true, true, true, true, true, false, false, false] rfl rfl (any_of HT_.out (by kernel_rfl)) (fun _ _ _ h => h) (Or.inr ⟨by rfl, rfl⟩) ?_ ?_
      rotate_left
      ·simp only [Act.put, sI, sZ, sS, i64_w, i32_w]
       rfl
      refine pure_ (i := 20) (N := some 36) (v := undef) (a' := ?_) #[true, true, true, true, true, true, true, true, true, true, true, true, true, true, true, true, true, true, true, true, true, false, false] rfl rfl (any_of HT_.out (by kernel_rfl)) (fun _ _ _ h => h) (Or.inr ⟨by rfl, rfl⟩) ?_ ?_
      rotate_left
      ·simp only [Act.put, sI, sZ, sS, i64_w, i32_w]
       rfl
      refine pure_ (i := 21) (N := some 37) (v := undef) (a' := ?_) #[true, true, true, true, true, true, true, true, true, true, true, true, true, true, true, true, true, true, true, true, true, true, false] rfl rfl (any_of HT_.out (by kernel_rfl)) (fun _ _ _ h => h) (Or.inr ⟨by rfl, rfl⟩) ?_ ?_
      rotate_left
      ·simp only [Act.put, sI, sZ, sS, i64_w, i32_w]
       rfl
      refine pure_ (i := 22) (N := some 38) (v := ?_) (a' := ?_) #[true, true, true, true, true, true, true, true, true, true, true, true, true, true, true, true, true, true, true, true, true, true, true] rfl rfl (any_of HT_.out (by kernel_rfl)) (fun _ _ _ h => h) (Or.inl ⟨by rfl, ?_⟩) ?_ ?_
      rotate_left
      ·intro w'
       go_simp
       with_reducible rfl
      rotate_left
      ·simp only [Act.put, sI, sZ, sS, i64_w, i32_w]
       rfl
      refine done_ (done_of HT_.out (by kernel_rfl)) ?_
      try go_wp2
      go_meet
      case rel => exact ⟨_, (x7_1), (by first | rfl | (simp; done) | (simp [*]; done)), H', ⟨by have := HK1.out; first | omega | exact Nat.le_refl _⟩, ⟨by (with_reducible repeat (first | refine kN ?_ _ | refine kD ?_ | refine kA ?_ _)); exact BK393.out⟩, ⟨by repeat (first | (with_reducible first | exact HB.out | apply bA | apply pN | apply bD | refine below_set ?_ GE393.out) | exact HB.out)⟩⟩
    ·rw [if_neg c11] at H
     exact absurd H (by simp)
 case rest =>
  clear HC5
  try clear c1
  try clear p2
  try clear c4
  try clear p4
  try clear q4
  try clear hx4
  try clear qi4
  try clear c7
  try clear c11
  try clear c12
  try clear c12b0
  try clear c14
  try clear c15
  try clear c18
  try clear c18b0
  try clear hx400_0
  try clear hx400_1
  try clear hx400_2
  try clear hx401_0
  try clear hx401_1
  try clear hx401_2
  try clear hx402_0
  try clear p400
  try clear p401
  try clear p402
  try clear q400
  try clear q401
  try clear q402
  obtain ⟨kq, x7_4, rfl, HA, HJ4, BK393, HB⟩ := hcut
  cases kq with
  | zero => exact absurd HA.out (by simp [load_line_first.j1])
  | succ kj4 =>
   have H := HA.out
   clear HA
   simp only [load_line_first.j1] at H
   by_cases c28 : 0 < (l0.length : Int)
   ·rw [if_pos c28] at H
    have c28b0 : decide (0 < (l0.length : Int)) = true := dT c28
    have c28b1 : decide (0 < l0.length) = true := dT (by omega)
    clear c28
    by_cases c29 : x7_4 = (((rd_T96 l0 0).f0).length : Int)
    ·rw [if_pos c29] at H
     have c29b0 : (x7_4 == (((rd_T96 l0 0).f0).length : Int)) = true := beq_iff_eq.mpr c29
     have c29b1 : (x7_4 != (((rd_T96 l0 0).f0).length : Int)) = false := bne_eq_false_iff_eq.mpr c29
     clear c29
     simp only [Option.some.injEq, Prod.mk.injEq] at H
     obtain ⟨rfl, rfl⟩ := H
     have p407 : 0 ≤ (0 : Int) := (by omega)
     have q407 : 0 < (l0.length : Int) := oD (by first | (with_reducible assumption) | assumption)
     obtain ⟨ad407, A407_0, c407_0, A407_1, c407_1, A407_2, c407_2, e407, hx407_0, hx407_1, hx407_2, hl407_0, hi407_0, hl407_1, hi407_1, hl407_2, hi407_2⟩ := at_T96 HR0.out 0 p407 q407
     have hv407_0 := hx407_0
     have hv407_1 := hx407_1
     have hv407_2 := hx407_2
     cases e407
     have qi407 : (0 < l0.length) = True := eq_true (by omega)
     (try rw [show ((0 : Int)).toNat = 0 from rfl] at hx407_0)
     (try rw [show 0 * 3 = 0 from rfl] at hx407_0)
     (try rw [Addr.add_zero'] at hx407_0)
     (try rw [show ((0 : Int)).toNat = 0 from rfl] at hx407_1)
     (try rw [show 0 * 3 = 0 from rfl] at hx407_1)
     (try rw [Addr.add_zero'] at hx407_1)
     (try rw [show ((0 : Int)).toNat = 0 from rfl] at hx407_2)
     (try rw [show 0 * 3 = 0 from rfl] at hx407_2)
     (try rw [Addr.add_zero'] at hx407_2)
     replace hx407_0 := (HB.out.cell (World.block_lt_of_cell? w _ hx407_0)).trans hx407_0
     replace hx407_1 := (HB.out.cell (World.block_lt_of_cell? w _ hx407_1)).trans hx407_1
     replace hx407_2 := (HB.out.cell (World.block_lt_of_cell? w _ hx407_2)).trans hx407_2
     have HR407_0 := aM hi407_0
     have HC407_0 := aM hl407_0
     clear hi407_0 hl407_0
     have HR407_1 := aM hi407_1
     have HC407_1 := aM hl407_1
     clear hi407_1 hl407_1
     have HR407_2 := aM hi407_2
     have HC407_2 := aM hl407_2
     clear hi407_2 hl407_2
     replace p407 := eq_true p407
     replace q407 := eq_true q407
     go_wp2
     go_ret2
     exact ⟨by first | rfl | (simp [errW_none, errW_some] <;> rfl) | (simp [*, errW_none, errW_some] <;> rfl), by repeat (first | (with_reducible first | exact HB.out | apply bA | apply pN | apply bD | refine below_set ?_ GE393.out) | exact HB.out)⟩
    ·rw [if_neg c29] at H
     have c29b0 : (x7_4 == (((rd_T96 l0 0).f0).length : Int)) = false := beq_eq_false_iff_ne.mpr c29
     have c29b1 : (x7_4 != (((rd_T96 l0 0).f0).length : Int)) = true := bne_iff_ne.mpr c29
     by_cases c30 : 0 ≤ x7_4
     ·rw [if_pos c30] at H
      have c30b0 : decide (0 ≤ x7_4) = true := dT c30
      clear c30
      by_cases c31 : x7_4 < (((rd_T96 l0 0).f0).length : Int)
      ·rw [if_pos c31] at H
       have c31b0 : decide (x7_4 < (((rd_T96 l0 0).f0).length : Int)) = true := dT c31
       clear c31; have H' := aM H; clear H
       have p407 : 0 ≤ (0 : Int) := (by omega)
       have q407 : 0 < (l0.length : Int) := oD (by first | (with_reducible assumption) | assumption)
       obtain ⟨ad407, A407_0, c407_0, A407_1, c407_1, A407_2, c407_2, e407, hx407_0, hx407_1, hx407_2, hl407_0, hi407_0, hl407_1, hi407_1, hl407_2, hi407_2⟩ := at_T96 HR0.out 0 p407 q407
       have hv407_0 := hx407_0
       have hv407_1 := hx407_1
       have hv407_2 := hx407_2
       cases e407
       have qi407 : (0 < l0.length) = True := eq_true (by omega)
       (try rw [show ((0 : Int)).toNat = 0 from rfl] at hx407_0)
       (try rw [show 0 * 3 = 0 from rfl] at hx407_0)
       (try rw [Addr.add_zero'] at hx407_0)
       (try rw [show ((0 : Int)).toNat = 0 from rfl] at hx407_1)
       (try rw [show 0 * 3 = 0 from rfl] at hx407_1)
       (try rw [Addr.add_zero'] at hx407_1)
       (try rw [show ((0 : Int)).toNat = 0 from rfl] at hx407_2)
       (try rw [show 0 * 3 = 0 from rfl] at hx407_2)
       (try rw [Addr.add_zero'] at hx407_2)
       replace hx407_0 := (HB.out.cell (World.block_lt_of_cell? w _ hx407_0)).trans hx407_0
       replace hx407_1 := (HB.out.cell (World.block_lt_of_cell? w _ hx407_1)).trans hx407_1
       replace hx407_2 := (HB.out.cell (World.block_lt_of_cell? w _ hx407_2)).trans hx407_2
       have HR407_0 := aM hi407_0
       have HC407_0 := aM hl407_0
       clear hi407_0 hl407_0
       have HR407_1 := aM hi407_1
       have HC407_1 := aM hl407_1
       clear hi407_1 hl407_1
       have HR407_2 := aM hi407_2
       have HC407_2 := aM hl407_2
       clear hi407_2 hl407_2
       replace p407 := eq_true p407
       replace q407 := eq_true q407
       try go_wp2
       have n0_ := aM (kD BK393.out); have n1_ := aM (bD HB.out); clear BK393 HB; have BK393 := n0_; have HB := n1_; clear n0_ n1_
       have p408 : 0 ≤ (0 : Int) := (by omega)
       have q408 : 0 < (l0.length : Int) := oD (by first | (with_reducible assumption) | assumption)
       obtain ⟨ad408, A408_0, c408_0, A408_1, c408_1, A408_2, c408_2, e408, hx408_0, hx408_1, hx408_2, hl408_0, hi408_0, hl408_1, hi408_1, hl408_2, hi408_2⟩ := at_T96 HR0.out 0 p408 q408
       have hw408_2 := hx408_2
       (try rw [show ((0 : Int)).toNat = 0 from rfl] at hw408_2)
       (try rw [show 0 * 3 = 0 from rfl] at hw408_2)
       (try rw [Addr.add_zero'] at hw408_2)
       have hw408_1 := hx408_1
       (try rw [show ((0 : Int)).toNat = 0 from rfl] at hw408_1)
       (try rw [show 0 * 3 = 0 from rfl] at hw408_1)
       (try rw [Addr.add_zero'] at hw408_1)
       have hw408_0 := hx408_0
       (try rw [show ((0 : Int)).toNat = 0 from rfl] at hw408_0)
       (try rw [show 0 * 3 = 0 from rfl] at hw408_0)
       (try rw [Addr.add_zero'] at hw408_0)
       have hv408_0 := hx408_0
       have hv408_1 := hx408_1
       have hv408_2 := hx408_2
       obtain rfl : ad407 = ad408 := (by injection e408)
       have qi408 : (0 < l0.length) = True := eq_true (by omega)
       (try rw [show ((0 : Int)).toNat = 0 from rfl] at hx408_0)
       (try rw [show 0 * 3 = 0 from rfl] at hx408_0)
       (try rw [Addr.add_zero'] at hx408_0)
       (try rw [show ((0 : Int)).toNat = 0 from rfl] at hx408_1)
       (try rw [show 0 * 3 = 0 from rfl] at hx408_1)
       (try rw [Addr.add_zero'] at hx408_1)
       (try rw [show ((0 : Int)).toNat = 0 from rfl] at hx408_2)
       (try rw [show 0 * 3 = 0 from rfl] at hx408_2)
       (try rw [Addr.add_zero'] at hx408_2)
       replace hx408_0 := (HB.out.cell (World.block_lt_of_cell? w _ hx408_0)).trans hx408_0
       replace hx408_1 := (HB.out.cell (World.block_lt_of_cell? w _ hx408_1)).trans hx408_1
       replace hx408_2 := (HB.out.cell (World.block_lt_of_cell? w _ hx408_2)).trans hx408_2
       have HR408_0 := aM hi408_0
       have HC408_0 := aM hl408_0
       clear hi408_0 hl408_0
       have HR408_1 := aM hi408_1
       have HC408_1 := aM hl408_1
       clear hi408_1 hl408_1
       have HR408_2 := aM hi408_2
       have HC408_2 := aM hl408_2
       clear hi408_2 hl408_2
       replace p408 := eq_true p408
       replace q408 := eq_true q408
       have p409 : 0 ≤ (x7_4 : Int) := oD (by first | (with_reducible assumption) | assumption)
       have q409 : x7_4 < (((rd_T96 l0 0).f0).length : Int) := oD (by first | (with_reducible assumption) | assumption)
       obtain ⟨ad409, e409, hx409_0, hx409_1, hx409_2⟩ := at_T77 HR408_0.out x7_4 p409 q409
       have hw409_2 := hx409_2
       have hw409_1 := hx409_1
       have hw409_0 := hx409_0
       cases e409
       replace hx409_0 := (HB.out.cell (World.block_lt_of_cell? w _ hx409_0)).trans hx409_0
       replace hx409_1 := (HB.out.cell (World.block_lt_of_cell? w _ hx409_1)).trans hx409_1
       replace hx409_2 := (HB.out.cell (World.block_lt_of_cell? w _ hx409_2)).trans hx409_2
       replace p409 := eq_true p409
       replace q409 := eq_true q409
       refine start_ (n := 10) (S := fun w' => w'.cell? ad407 = some (.slice (some ad409) ((rd_T96 l0 0).f0).length c408_0) ∧ w'.cell? ⟨ad407.block, ad407.off + 1, none⟩ = some (.slice A408_1 ((rd_T96 l0 0).f1).length c408_1) ∧ w'.cell? ⟨ad407.block, ad407.off + 2, none⟩ = some (.slice A408_2 ((rd_T96 l0 0).f2).length c408_2) ∧ w'.cell? (ad409.add ((x7_4).toNat * 3)) = some (.int .i64 ((rd_T77 ((rd_T96 l0 0).f0) x7_4).f0)) ∧ w'.cell? ⟨(ad409.add ((x7_4).toNat * 3)).block, (ad409.add ((x7_4).toNat * 3)).off + 1, none⟩ = some (.int .i64 ((rd_T77 ((rd_T96 l0 0).f0) x7_4).f1)) ∧ w'.cell? ⟨(ad409.add ((x7_4).toNat * 3)).block, (ad409.add ((x7_4).toNat * 3)).off + 2, none⟩ = some (.int .i64 ((rd_T77 ((rd_T96 l0 0).f0) x7_4).f2))) (ds := []) #[false, false, false, false, false, false, false, false, false, false] (by kernel_rfl) rfl rfl ⟨((HB.out.cell (World.block_lt_of_cell? w _ hw408_0)).trans hw408_0), ((HB.out.cell (World.block_lt_of_cell? w _ hw408_1)).trans hw408_1), ((HB.out.cell (World.block_lt_of_cell? w _ hw408_2)).trans hw408_2), ((HB.out.cell (World.block_lt_of_cell? w _ hw409_0)).trans hw409_0), ((HB.out.cell (World.block_lt_of_cell? w _ hw409_1)).trans hw409_1), ((HB.out.cell (World.block_lt_of_cell? w _ hw409_2)).trans hw409_2)⟩ (fun hHeld => ?_); refine with_tabW load_line_first.tab7 load_line_first.bits7 (fun HT_ HW_ => ?_)
       generalize wc.drew = w32 at BK393 HB HR408_0 HR408_1 HR408_2 hx408_0 hx408_1 hx408_2 hx409_0 hx409_1 hx409_2 hHeld ⊢
       refine pure_ (i := 0) (N := some 48) (v := ?_) (a' := ?_) #[true, false, false, false, false, false, false, false, false, false] rfl rfl (any_of HT_.out (by kernel_rfl)) (fun _ _ _ h => h) (Or.inl ⟨by rfl, ?_⟩) ?_ ?_
       rotate_left
       ·intro w'
        go_simp
        with_reducible rfl
       rotate_left
       ·simp only [Act.put, sI, sZ, sS, i64_w, i32_w]
        rfl
       refine pure_ (i := 1) (N := some 49) (v := ?_) (a' := ?_) #[true, true, false, false, false, false, false, false, false, false] rfl rfl (any_of HT_.out (by kernel_rfl)) (fun _ _ _ h => h) (Or.inl ⟨by rfl, ?_⟩) ?_ ?_
       rotate_left
       ·intro w'
        go_simp
        with_reducible rfl
       rotate_left
       ·simp only [Act.put, sI, sZ, sS, i64_w, i32_w]
        rfl
       refine pure_ (i := 2) (N := some 50) (v := ?_) (a' := ?_) #[true, true, true, false, false, false, false, false, false, false] rfl rfl (any_of HT_.out (by kernel_rfl)) (fun _ _ _ h => h) (Or.inl ⟨by rfl, ?_⟩) ?_ ?_
       rotate_left
       ·intro w'
        go_simp
        with_reducible rfl
       rotate_left
       ·simp only [Act.put, sI, sZ, sS, i64_w, i32_w]
        rfl
       refine pure_ (i := 4) (N := some 52) (v := ?_) (a' := ?_) #[true, true, true, false, true, false, false, false, false, false] rfl rfl (any_of HT_.out (by kernel_rfl)) (fun _ _ _ h => h) (Or.inl ⟨by rfl, ?_⟩) ?_ ?_
       rotate_left
       ·intro w'
        go_simp
        with_reducible rfl
       rotate_left
       ·simp only [Act.put, sI, sZ, sS, i64_w, i32_w]
        rfl
       refine pure_ (i := 8) (N := some 8) (v := ?_) (a' := ?_) #[true, true, true, false, true, false, false, false, true, false] rfl rfl (any_of HT_.out (by kernel_rfl)) (fun _ _ _ h => h) (Or.inl ⟨by rfl, ?_⟩) ?_ ?_
       rotate_left
       ·intro w'
        go_simp
        with_reducible rfl
       rotate_left
       ·simp only [Act.put, sI, sZ, sS, i64_w, i32_w]
        rfl
       refine take_ (i := 3) (N := some 51) (v := ?_) (a' := ?_) #[true, true, true, true, true, false, false, false, true, false] rfl rfl (take_ofW HT_.out HW_.out (by kernel_rfl)) (fun _ _ _ h => h) (Or.inl ⟨by rfl, ?_⟩) hHeld ?_ ?_
       rotate_left
       ·rintro w' ⟨s0, s1, s2, s3, s4, s5⟩
        go_simp
        with_reducible rfl
       rotate_left
       ·simp only [Act.put, sI, sZ, sS, i64_w, i32_w]
        rfl
       refine pure_ (i := 5) (N := some 53) (v := ?_) (a' := ?_) #[true, true, true, true, true, true, false, false, true, false] rfl rfl (any_of HT_.out (by kernel_rfl)) (fun _ _ _ h => h) (Or.inl ⟨by rfl, ?_⟩) ?_ ?_
       rotate_left
       ·intro w'
        go_simp
        with_reducible rfl
       rotate_left
       ·simp only [Act.put, sI, sZ, sS, i64_w, i32_w]
        rfl
       refine pure_ (i := 6) (N := some 54) (v := ?_) (a' := ?_) #[true, true, true, true, true, true, true, false, true, false] rfl rfl (any_of HT_.out (by kernel_rfl)) (fun _ _ _ h => h) (Or.inl ⟨by rfl, ?_⟩) ?_ ?_
       rotate_left
       ·intro w'
        go_simp
        with_reducible rfl
       rotate_left
       ·simp only [Act.put, sI, sZ, sS, i64_w, i32_w]
        rfl
       refine take_ (i := 7) (N := some 55) (v := ?_) (a' := ?_) #[true, true, true, true, true, true, true, true, true, false] rfl rfl (take_ofW HT_.out HW_.out (by kernel_rfl)) (fun _ _ _ h => h) (Or.inl ⟨by rfl, ?_⟩) hHeld ?_ ?_
       rotate_left
       ·rintro w' ⟨s0, s1, s2, s3, s4, s5⟩
        go_simp
        with_reducible rfl
       rotate_left
       ·simp only [Act.put, sI, sZ, sS, i64_w, i32_w]
        rfl
       refine pure_ (i := 9) (N := some 9) (v := ?_) (a' := ?_) #[true, true, true, true, true, true, true, true, true, true] rfl rfl (any_of HT_.out (by kernel_rfl)) (fun _ _ _ h => h) (Or.inl ⟨by rfl, ?_⟩) ?_ ?_
       rotate_left
       ·intro w'
        go_simp
        with_reducible rfl
       rotate_left
       ·simp only [Act.put, sI, sZ, sS, i64_w, i32_w]
        rfl
       refine done_ (done_of HT_.out (by kernel_rfl)) ?_
       try go_wp2
       go_loopg [8, 9] kj4 (fun kq v8 v9 w' => ∃ (x8_2 : Int) (x9_2 : Int), v8 = .int .i64 x8_2 ∧ v9 = .int .i64 x9_2 ∧ Aside0 (load_line_first.l1 kq l0 x7_4 x8_2 x9_2 l1_0 l1_1 = some (r1, r2)) ∧ Aside0 (kq ≤ kj4) ∧ Aside0 (w'.heap[gb393]? = some (.cells #[(.slice A1_0 l1_0.length c1_0), (.slice A1_1 l1_1.length c1_1)] 102 (0, 0))) ∧ Aside0 (Below w.heap.size w w'))
       case atStart => exact ⟨(0), ((rd_T77 ((rd_T96 l0 0).f0) x7_4).f0), (by first | rfl | (simp; done) | (simp [*]; done)), (by first | rfl | (simp; done) | (simp [*]; done)), H', ⟨Nat.le_refl _⟩, ⟨by (with_reducible repeat (first | refine kN ?_ _ | refine kD ?_ | refine kA ?_ _)); exact BK393.out⟩, ⟨by repeat (first | (with_reducible first | exact HB.out | apply bA | apply pN | apply bD | refine below_set ?_ GE393.out) | exact HB.out)⟩⟩
       case round =>
        clear H'
        try clear c1
        try clear c2
        try clear p2
        try clear c3
        try clear c4
        try clear p4
        try clear q4
        try clear hx4
        try clear qi4
        try clear c7
        try clear c11
        try clear c12
        try clear c12b0
        try clear c14
        try clear c15
        try clear c18
        try clear c18b0
        try clear c28
        try clear c28b0
        try clear c28b1
        try clear c29
        try clear c29b0
        try clear c29b1
        try clear c30
        try clear c30b0
        try clear c31
        try clear c31b0
        try clear hx400_0
        try clear hx400_1
        try clear hx400_2
        try clear hx401_0
        try clear hx401_1
        try clear hx401_2
        try clear hx402_0
        try clear hx407_0
        try clear hx407_1
        try clear hx407_2
        try clear hx408_0
        try clear hx408_1
        try clear hx408_2
        try clear hx409_0
        try clear hx409_1
        try clear hx409_2
        try clear p2
        try clear p4
        try clear p400
        try clear p401
        try clear p402
        try clear p407
        try clear p408
        try clear p409
        try clear q4
        try clear q400
        try clear q401
        try clear q402
        try clear q407
        try clear q408
        try clear q409
        obtain ⟨x8_2, x9_2, rfl, rfl, HA, HK2, BK393, HB⟩ := hrel
        cases gk with
        | zero => exact absurd HA.out (by simp [load_line_first.l1])
        | succ k2 =>
         have H := HA.out
         clear HA
         simp only [load_line_first.l1] at H
         by_cases c33 : x8_2 < x9_2
         ·rw [if_pos c33] at H
          have c33b0 : decide (x8_2 < x9_2) = true := dT c33
          clear c33
          replace H := oB H
          obtain ⟨⟨t412, t415⟩, A340, H⟩ := H
          replace H : ((nat_Mul.f k2 t412 l1_1).bind fun t419 => ((nat_Mul.f k2 l1_0 t415).bind fun t422 => ((nat_Cmp.f k2 t419 t422).bind fun t425 => (if t425 ≥ 0 then (load_line_first.l1 k2 l0 x7_4 x8_2 (wrap64 (Int.tdiv (wrap64 (x8_2 + x9_2)) 2)) l1_0 l1_1) else (load_line_first.l1 k2 l0 x7_4 (wrap64 ((wrap64 (Int.tdiv (wrap64 (x8_2 + x9_2)) 2)) + 1)) x9_2 l1_0 l1_1))))) = some (r1, r2) := H
          have A34 := aM A340; clear A340
          replace H := oB H
          obtain ⟨t419, A350, H⟩ := H
          replace H : ((nat_Mul.f k2 l1_0 t415).bind fun t422 => ((nat_Cmp.f k2 t419 t422).bind fun t425 => (if t425 ≥ 0 then (load_line_first.l1 k2 l0 x7_4 x8_2 (wrap64 (Int.tdiv (wrap64 (x8_2 + x9_2)) 2)) l1_0 l1_1) else (load_line_first.l1 k2 l0 x7_4 (wrap64 ((wrap64 (Int.tdiv (wrap64 (x8_2 + x9_2)) 2)) + 1)) x9_2 l1_0 l1_1)))) = some (r1, r2) := H
          have A35 := aM A350; clear A350
          replace H := oB H
          obtain ⟨t422, A360, H⟩ := H
          replace H : ((nat_Cmp.f k2 t419 t422).bind fun t425 => (if t425 ≥ 0 then (load_line_first.l1 k2 l0 x7_4 x8_2 (wrap64 (Int.tdiv (wrap64 (x8_2 + x9_2)) 2)) l1_0 l1_1) else (load_line_first.l1 k2 l0 x7_4 (wrap64 ((wrap64 (Int.tdiv (wrap64 (x8_2 + x9_2)) 2)) + 1)) x9_2 l1_0 l1_1))) = some (r1, r2) := H
          have A36 := aM A360; clear A360
          replace H := oB H
          obtain ⟨t425, A370, H⟩ := H
          replace H : (if t425 ≥ 0 then (load_line_first.l1 k2 l0 x7_4 x8_2 (wrap64 (Int.tdiv (wrap64 (x8_2 + x9_2)) 2)) l1_0 l1_1) else (load_line_first.l1 k2 l0 x7_4 (wrap64 ((wrap64 (Int.tdiv (wrap64 (x8_2 + x9_2)) 2)) + 1)) x9_2 l1_0 l1_1)) = some (r1, r2) := H
          have A37 := aM A370; clear A370
          by_cases c38 : t425 ≥ 0
          ·rw [if_pos c38] at H
           have c38b0 : decide (0 ≤ t425) = true := dT c38
           clear c38; have H' := aM H; clear H
           try go_wp2_with (first | ((with_reducible refine gC (f := 76) rfl ?_); refine gL (some 66) rfl rfl Try.func76 (by kernel_rfl) rfl #[.pointer (some ad407), .int .i64 x7_4, .int .i64 (wrap64 (Int.tdiv (wrap64 (x8_2 + x9_2)) 2))] rfl (by (try simp only [mA, List.map_cons, List.map_nil]); first | done | rfl | (simp only [List.length_drop, List.length_take]; rfl)) ?_; (with_reducible refine (load_line_area.calls k2 _ c0 l0 x7_4 (wrap64 (Int.tdiv (wrap64 (x8_2 + x9_2)) 2)) t412 t415 _ ?side1 ?side2 A34.out).mono ?_); (case side1 => repeat (first | exact (Kd.C_below HR0.out HB.out) | (with_reducible refine cA ?_ _) | (with_reducible refine cN ?_ _) | (with_reducible refine cD ?_))); (case side2 => exact HC0.out); rintro e w39 ⟨v413, v416, rfl, ho0, ho1, hb⟩; refine ⟨_, rfl, ?_⟩; have n0_ := aM (Kd.R_lower ho0 (below_size (by repeat (first | (with_reducible first | exact HB.out | apply bA | apply pN | apply bD | refine below_set ?_ GE393.out) | exact HB.out)))); have n1_ := aM (Kd.R_lower ho1 (below_size (by repeat (first | (with_reducible first | exact HB.out | apply bA | apply pN | apply bD | refine below_set ?_ GE393.out) | exact HB.out)))); have n2_ := aM (blk_below (g := gb393) (o := .cells #[.slice A1_0 l1_0.length c1_0, .slice A1_1 l1_1.length c1_1] 102 (0, 0)) (by (with_reducible repeat (first | refine kN ?_ _ | refine kD ?_ | refine kA ?_ _)); exact BK393.out) hb); have n3_ := aM (bS (by repeat (first | (with_reducible first | exact HB.out | apply bA | apply pN | apply bD | refine below_set ?_ GE393.out) | exact HB.out)) hb); clear BK393 HB; have HO414 := n0_; have HO417 := n1_; have BK393 := n2_; have HB := n3_; clear n0_ n1_ n2_ n3_; (try clear hb); (try clear hb2); (try clear hk); (try clear hi); (try clear ho0); (try clear ho1)) | ((with_reducible refine gate_dst (N := 11) rfl ?_); refine box_event ?hg (N := 11) ?hd (cs := #[.slice none 0 0, .slice none 0 0]) (t := 102) ?hr ?_; (case hd => rfl); (case hg => rfl); (case hr => first | (go_simp; done) | (go_simp; rfl)); intro gb418 hg w40 hbox hb; have n0_ := aM (Kd.R_below (by (with_reducible repeat (first | apply rA | apply rN | apply rD)); exact HO414.out) hb); have n1_ := aM (Kd.R_below (by (with_reducible repeat (first | apply rA | apply rN | apply rD)); exact HO417.out) hb); have n2_ := aM (blk_below (g := gb393) (o := .cells #[.slice A1_0 l1_0.length c1_0, .slice A1_1 l1_1.length c1_1] 102 (0, 0)) (by (with_reducible repeat (first | refine kN ?_ _ | refine kD ?_ | refine kA ?_ _)); exact BK393.out) hb); have n3_ := aM (bS (by repeat (first | (with_reducible first | exact HB.out | apply bA | apply pN | apply bD | refine below_set ?_ GE393.out) | exact HB.out)) hb); have n4_ := aM (hbox); have n5_ := aM ((by rw [hg]; exact (below_size (by repeat (first | (with_reducible first | exact HB.out | apply bA | apply pN | apply bD | refine below_set ?_ GE393.out) | exact HB.out))) : w.heap.size ≤ gb418)); have n6_ := aM ((by rw [hg]; exact (below_size (by repeat (first | (with_reducible first | exact HB.out | apply bA | apply pN | apply bD | refine below_set ?_ GE393.out) | exact HB.out))) : w.heap.size ≤ gb418)); have n7_ := aM ((by rw [hg]; exact Nat.ne_of_lt (blk_lt (g := gb393) (o := .cells #[.slice A1_0 l1_0.length c1_0, .slice A1_1 l1_1.length c1_1] 102 (0, 0)) (by (with_reducible repeat (first | refine kN ?_ _ | refine kD ?_ | refine kA ?_ _)); exact BK393.out)) : gb393 ≠ gb418)); have n8_ := aM ((by rw [hg]; exact Nat.ne_of_gt (blk_lt (g := gb393) (o := .cells #[.slice A1_0 l1_0.length c1_0, .slice A1_1 l1_1.length c1_1] 102 (0, 0)) (by (with_reducible repeat (first | refine kN ?_ _ | refine kD ?_ | refine kA ?_ _)); exact BK393.out)) : gb418 ≠ gb393)); clear HO414 HO417 BK393 HB; have HO414 := n0_; have HO417 := n1_; have BK393 := n2_; have HB := n3_; have BK418 := n4_; have GW418 := n5_; have GE418 := n6_; have NB393_418 := n7_; have NB418_393 := n8_; clear n0_ n1_ n2_ n3_ n4_ n5_ n6_ n7_ n8_ hb hbox hg; obtain ⟨Ao41, co41, eo41⟩ := Kd.R_slice HO414.out; subst eo41; have hnb42 := NB418_393.out; have hnc42 := NB393_418.out; have hcz43_0 : w40.cell? ⟨gb418, 0, none⟩ = some (.slice none 0 0) := (blk_cell BK418.out 0).trans rfl; have hcz43_1 : w40.cell? ⟨gb418, 1, none⟩ = some (.slice none 0 0) := (blk_cell BK418.out 1).trans rfl; have hfz43_0 := blk_frozen BK418.out 0; have hfz43_1 := blk_frozen BK418.out 1; obtain ⟨Ao44, co44, eo44⟩ := Kd.R_slice HO417.out; subst eo44))
           have n0_ : Aside0 (Kd.R (Kd.int .u64) 85 ((w40.setCell ⟨gb418, 0, none⟩ (.slice Ao41 t412.length co41)).setCell ⟨gb418, 1, none⟩ (.slice Ao44 t415.length co44)) w.heap.size (fun k_ => some k_ ≠ (.slice Ao44 t415.length co44 : Value).ownBlock) (.slice Ao41 t412.length co41) t412) := ⟨by (with_reducible repeat (first | apply rA | apply rN | apply rD)); exact Kd.R_mono (Kd.R_far (p := ⟨gb418, 1, none⟩) (Kd.R_far (p := ⟨gb418, 0, none⟩) (Kd.R_types HO414.out BK418.out (by decide)) (fun _ hk => hk.2) (.slice Ao41 t412.length co41)) (fun _ hk => hk.2) (.slice Ao44 t415.length co44)) (fun _ hk => hk.1)⟩
           have n1_ : Aside0 (Kd.R (Kd.int .u64) 85 ((w40.setCell ⟨gb418, 0, none⟩ (.slice Ao41 t412.length co41)).setCell ⟨gb418, 1, none⟩ (.slice Ao44 t415.length co44)) w.heap.size (fun k_ => some k_ ≠ (.slice Ao41 t412.length co41 : Value).ownBlock) (.slice Ao44 t415.length co44) t415) := ⟨by (with_reducible repeat (first | apply rA | apply rN | apply rD)); exact Kd.R_mono (Kd.R_far (p := ⟨gb418, 1, none⟩) (Kd.R_far (p := ⟨gb418, 0, none⟩) (Kd.R_types HO417.out BK418.out (by decide)) (fun _ hk => hk.2) (.slice Ao41 t412.length co41)) (fun _ hk => hk.2) (.slice Ao44 t415.length co44)) (fun _ hk => hk.1)⟩
           have n2_ : Aside0 (((w40.setCell ⟨gb418, 0, none⟩ (.slice Ao41 t412.length co41)).setCell ⟨gb418, 1, none⟩ (.slice Ao44 t415.length co44)).heap[gb393]? = some (.cells #[.slice A1_0 l1_0.length c1_0, .slice A1_1 l1_1.length c1_1] 102 (0, 0))) := ⟨by (with_reducible repeat (first | refine kN ?_ _ | refine kD ?_ | refine kA ?_ _)); refine blk_far ?_ NB393_418.out _; (with_reducible repeat (first | refine kN ?_ _ | refine kD ?_ | refine kA ?_ _)); refine blk_far ?_ NB393_418.out _; (with_reducible repeat (first | refine kN ?_ _ | refine kD ?_ | refine kA ?_ _)); exact BK393.out⟩
           have n3_ : Aside0 (((w40.setCell ⟨gb418, 0, none⟩ (.slice Ao41 t412.length co41)).setCell ⟨gb418, 1, none⟩ (.slice Ao44 t415.length co44)).heap[gb418]? = some (.cells #[.slice Ao41 t412.length co41, .slice Ao44 t415.length co44] 102 (0, 0))) := ⟨by (with_reducible repeat (first | refine kN ?_ _ | refine kD ?_ | refine kA ?_ _)); refine blk_put (cs := #[.slice Ao41 t412.length co41, .slice none 0 0]) ?_ 1 _ rfl; (with_reducible repeat (first | refine kN ?_ _ | refine kD ?_ | refine kA ?_ _)); refine blk_put (cs := #[.slice none 0 0, .slice none 0 0]) ?_ 0 _ rfl; (with_reducible repeat (first | refine kN ?_ _ | refine kD ?_ | refine kA ?_ _)); exact BK418.out⟩
           have n4_ : Aside0 (Below w.heap.size w ((w40.setCell ⟨gb418, 0, none⟩ (.slice Ao41 t412.length co41)).setCell ⟨gb418, 1, none⟩ (.slice Ao44 t415.length co44))) := ⟨by repeat (first | (with_reducible first | exact HB.out | apply bA | apply pN | apply bD | refine below_set ?_ GE393.out | refine below_set ?_ GE418.out) | exact HB.out)⟩
           (try clear HO414)
           (try clear HO417)
           (try clear BK393)
           (try clear BK418)
           (try clear HB)
           generalize ((w40.setCell ⟨gb418, 0, none⟩ (.slice Ao41 t412.length co41)).setCell ⟨gb418, 1, none⟩ (.slice Ao44 t415.length co44)) = w45 at n0_ n1_ n2_ n3_ n4_ ⊢
           have HO414 := n0_; have HO417 := n1_; have BK393 := n2_; have BK418 := n3_; have HB := n4_; clear n0_ n1_ n2_ n3_ n4_; have n0_ := aM (rD HO414.out); have n1_ := aM (rD HO417.out); have n2_ := aM (kD BK393.out); have n3_ := aM (kD BK418.out); have n4_ := aM (bD HB.out); clear HO414 HO417 BK393 BK418 HB; have HO414 := n0_; have HO417 := n1_; have BK393 := n2_; have BK418 := n3_; have HB := n4_; clear n0_ n1_ n2_ n3_ n4_
           refine start_ (n := 12) (S := fun w' => w'.cell? ⟨gb418, 0, none⟩ = some (.slice Ao41 t412.length co41) ∧ w'.cell? ⟨gb418, 1, none⟩ = some (.slice Ao44 t415.length co44) ∧ w'.cell? ⟨gb393, 0, none⟩ = some (.slice A1_0 l1_0.length c1_0) ∧ w'.cell? ⟨gb393, 1, none⟩ = some (.slice A1_1 l1_1.length c1_1)) (ds := []) #[false, false, false, false, false, false, false, false, false, false, false, false] (by kernel_rfl) rfl rfl ⟨(blk_cell BK418.out 0).trans rfl, (blk_cell BK418.out 1).trans rfl, (blk_cell BK393.out 0).trans rfl, (blk_cell BK393.out 1).trans rfl⟩ (fun hHeld => ?_); refine with_tabW load_line_first.tab11 load_line_first.bits11 (fun HT_ HW_ => ?_)
           generalize w45.drew = w46 at HO414 HO417 BK393 BK418 HB hHeld ⊢
           refine pure_ (i := 0) (N := some 67) (v := ?_) (a' := ?_) #[true, false, false, false, false, false, false, false, false, false, false, false] rfl rfl (any_of HT_.out (by kernel_rfl)) (fun _ _ _ h => h) (Or.inl ⟨by rfl, ?_⟩) ?_ ?_
           rotate_left
           ·intro w'
            go_simp
            with_reducible rfl
           rotate_left
           ·simp only [Act.put, sI, sZ, sS, i64_w, i32_w]
            rfl
           refine pure_ (i := 2) (N := some 69) (v := ?_) (a' := ?_) #[true, false, true, false, false, false, false, false, false, false, false, false] rfl rfl (any_of HT_.out (by kernel_rfl)) (fun _ _ _ h => h) (Or.inl ⟨by rfl, ?_⟩) ?_ ?_
           rotate_left
           ·intro w'
            go_simp
            with_reducible rfl
           rotate_left
           ·simp only [Act.put, sI, sZ, sS, i64_w, i32_w]
            rfl
           refine pure_ (i := 5) (N := some 72) (v := ?_) (a' := ?_) #[true, false, true, false, false, true, false, false, false, false, false, false] rfl rfl (any_of HT_.out (by kernel_rfl)) (fun _ _ _ h => h) (Or.inl ⟨by rfl, ?_⟩) ?_ ?_
           rotate_left
           ·intro w'
            go_simp
            with_reducible rfl
           rotate_left
           ·simp only [Act.put, sI, sZ, sS, i64_w, i32_w]
            rfl
           refine pure_ (i := 7) (N := some 74) (v := ?_) (a' := ?_) #[true, false, true, false, false, true, false, true, false, false, false, false] rfl rfl (any_of HT_.out (by kernel_rfl)) (fun _ _ _ h => h) (Or.inl ⟨by rfl, ?_⟩) ?_ ?_
           rotate_left
           ·intro w'
            go_simp
            with_reducible rfl
           rotate_left
           ·simp only [Act.put, sI, sZ, sS, i64_w, i32_w]
            rfl
           refine take_ (i := 1) (N := some 68) (v := ?_) (a' := ?_) #[true, true, true, false, false, true, false, true, false, false, false, false] rfl rfl (take_ofW HT_.out HW_.out (by kernel_rfl)) (fun _ _ _ h => h) (Or.inl ⟨by rfl, ?_⟩) hHeld ?_ ?_
           rotate_left
           ·rintro w' ⟨s0, s1, s2, s3⟩
            go_simp
            with_reducible rfl
           rotate_left
           ·simp only [Act.put, sI, sZ, sS, i64_w, i32_w]
            rfl
           refine take_ (i := 3) (N := some 70) (v := ?_) (a' := ?_) #[true, true, true, true, false, true, false, true, false, false, false, false] rfl rfl (take_ofW HT_.out HW_.out (by kernel_rfl)) (fun _ _ _ h => h) (Or.inl ⟨by rfl, ?_⟩) hHeld ?_ ?_
           rotate_left
           ·rintro w' ⟨s0, s1, s2, s3⟩
            go_simp
            with_reducible rfl
           rotate_left
           ·simp only [Act.put, sI, sZ, sS, i64_w, i32_w]
            rfl
           refine take_ (i := 6) (N := some 73) (v := ?_) (a' := ?_) #[true, true, true, true, false, true, true, true, false, false, false, false] rfl rfl (take_ofW HT_.out HW_.out (by kernel_rfl)) (fun _ _ _ h => h) (Or.inl ⟨by rfl, ?_⟩) hHeld ?_ ?_
           rotate_left
           ·rintro w' ⟨s0, s1, s2, s3⟩
            go_simp
            with_reducible rfl
           rotate_left
           ·simp only [Act.put, sI, sZ, sS, i64_w, i32_w]
            rfl
           refine take_ (i := 8) (N := some 75) (v := ?_) (a' := ?_) #[true, true, true, true, false, true, true, true, true, false, false, false] rfl rfl (take_ofW HT_.out HW_.out (by kernel_rfl)) (fun _ _ _ h => h) (Or.inl ⟨by rfl, ?_⟩) hHeld ?_ ?_
           rotate_left
           ·rintro w' ⟨s0, s1, s2, s3⟩
            go_simp
            with_reducible rfl
           rotate_left
           ·simp only [Act.put, sI, sZ, sS, i64_w, i32_w]
            rfl
           refine one_ (i := 4) (N := some 71) #[true, true, true, true, true, true, true, true, true, false, false, false] rfl rfl (one_of HT_.out (by kernel_rfl)) (by decide) (fun K hK => ?_)
           refine goes_ Try.func74 (by kernel_rfl) rfl #[.slice Ao41 t412.length co41, .slice A1_1 l1_1.length c1_1] (by rfl) rfl rfl (by (try simp only [mA, List.map_cons, List.map_nil]); first | done | rfl | (simp only [List.length_drop, List.length_take]; rfl)) ?_
           with_reducible refine (nat_Mul.calls k2 _ _ t412 _ _ l1_1 t419 _ ?side1 ?side2 ?side3 ?side4 A35.out).mono ?_
           (case side1 => repeat (first | exact (Kd.R_reads' HO414.out).2.2 | (with_reducible refine cA ?_ _) | (with_reducible refine cN ?_ _) | (with_reducible refine cD ?_)))
           (case side2 => exact (Kd.R_reads' HO414.out).2.1)
           (case side3 => repeat (first | exact (Kd.C_below HR1_1.out HB.out) | (with_reducible refine cA ?_ _) | (with_reducible refine cN ?_ _) | (with_reducible refine cD ?_)))
           (case side4 => exact HC1_1.out)
           rintro e w47 ⟨v420, rfl, ho0, hb⟩
           refine ⟨_, rfl, ?_⟩
           have n0_ := aM (Kd.R_elder' (by (with_reducible repeat (first | apply rA | apply rN | apply rD)); exact HO414.out) (Kd.R_base ho0) hb); have n1_ := aM (Kd.R_elder' (by (with_reducible repeat (first | apply rA | apply rN | apply rD)); exact HO417.out) (Kd.R_base ho0) hb); have n2_ := aM (Kd.R_lower (Kd.R_new' (Kd.R_new' ho0 (Kd.R_lt (by (with_reducible repeat (first | apply rA | apply rN | apply rD)); exact HO414.out))) (Kd.R_lt (by (with_reducible repeat (first | apply rA | apply rN | apply rD)); exact HO417.out))) (below_size (by repeat (first | (with_reducible first | exact HB.out | apply bA | apply pN | apply bD | refine below_set ?_ GE393.out | refine below_set ?_ GE418.out) | exact HB.out)))); have n3_ := aM (blk_below (g := gb393) (o := .cells #[.slice A1_0 l1_0.length c1_0, .slice A1_1 l1_1.length c1_1] 102 (0, 0)) (by (with_reducible repeat (first | refine kN ?_ _ | refine kD ?_ | refine kA ?_ _)); exact BK393.out) hb); have n4_ := aM (blk_below (g := gb418) (o := .cells #[.slice Ao41 t412.length co41, .slice Ao44 t415.length co44] 102 (0, 0)) (by (with_reducible repeat (first | refine kN ?_ _ | refine kD ?_ | refine kA ?_ _)); exact BK418.out) hb); have n5_ := aM (bS (by repeat (first | (with_reducible first | exact HB.out | apply bA | apply pN | apply bD | refine below_set ?_ GE393.out | refine below_set ?_ GE418.out) | exact HB.out)) hb); clear HO414 HO417 BK393 BK418 HB; have HO414 := n0_; have HO417 := n1_; have HO421 := n2_; have BK393 := n3_; have BK418 := n4_; have HB := n5_; clear n0_ n1_ n2_ n3_ n4_ n5_
           (try clear hb)
           (try clear hb2)
           (try clear hk)
           (try clear hi)
           (try clear ho0)
           refine hK.out _ _ ⟨(blk_cell BK418.out 0).trans rfl, (blk_cell BK418.out 1).trans rfl, (blk_cell BK393.out 0).trans rfl, (blk_cell BK393.out 1).trans rfl⟩ (fun hHeld => ?_)
           clear hK K
           refine norm_ (a' := ?_) ?_ ?_
           rotate_left
           ·show Act.put _ (some 71) _ = _
            simp only [Act.put, sI, sZ, sS, i64_w, i32_w]
            rfl
           refine one_ (i := 9) (N := some 76) #[true, true, true, true, true, true, true, true, true, true, false, false] rfl rfl (one_of HT_.out (by kernel_rfl)) (by decide) (fun K hK => ?_)
           refine goes_ Try.func74 (by kernel_rfl) rfl #[.slice A1_0 l1_0.length c1_0, .slice Ao44 t415.length co44] (by rfl) rfl rfl (by (try simp only [mA, List.map_cons, List.map_nil]); first | done | rfl | (simp only [List.length_drop, List.length_take]; rfl)) ?_
           with_reducible refine (nat_Mul.calls k2 _ _ l1_0 _ _ t415 t422 _ ?side1 ?side2 ?side3 ?side4 A36.out).mono ?_
           (case side1 => repeat (first | exact (Kd.C_below HR1_0.out HB.out) | (with_reducible refine cA ?_ _) | (with_reducible refine cN ?_ _) | (with_reducible refine cD ?_)))
           (case side2 => exact HC1_0.out)
           (case side3 => repeat (first | exact (Kd.R_reads' HO417.out).2.2 | (with_reducible refine cA ?_ _) | (with_reducible refine cN ?_ _) | (with_reducible refine cD ?_)))
           (case side4 => exact (Kd.R_reads' HO417.out).2.1)
           rintro e w48 ⟨v423, rfl, ho0, hb⟩
           refine ⟨_, rfl, ?_⟩
           have n0_ := aM (Kd.R_elder' (by (with_reducible repeat (first | apply rA | apply rN | apply rD)); exact HO414.out) (Kd.R_base ho0) hb); have n1_ := aM (Kd.R_elder' (by (with_reducible repeat (first | apply rA | apply rN | apply rD)); exact HO417.out) (Kd.R_base ho0) hb); have n2_ := aM (Kd.R_elder' (by (with_reducible repeat (first | apply rA | apply rN | apply rD)); exact HO421.out) (Kd.R_base ho0) hb); have n3_ := aM (Kd.R_lower (Kd.R_new' (Kd.R_new' (Kd.R_new' ho0 (Kd.R_lt (by (with_reducible repeat (first | apply rA | apply rN | apply rD)); exact HO414.out))) (Kd.R_lt (by (with_reducible repeat (first | apply rA | apply rN | apply rD)); exact HO417.out))) (Kd.R_lt (by (with_reducible repeat (first | apply rA | apply rN | apply rD)); exact HO421.out))) (below_size (by repeat (first | (with_reducible first | exact HB.out | apply bA | apply pN | apply bD | refine below_set ?_ GE393.out | refine below_set ?_ GE418.out) | exact HB.out)))); have n4_ := aM (blk_below (g := gb393) (o := .cells #[.slice A1_0 l1_0.length c1_0, .slice A1_1 l1_1.length c1_1] 102 (0, 0)) (by (with_reducible repeat (first | refine kN ?_ _ | refine kD ?_ | refine kA ?_ _)); exact BK393.out) hb); have n5_ := aM (blk_below (g := gb418) (o := .cells #[.slice Ao41 t412.length co41, .slice Ao44 t415.length co44] 102 (0, 0)) (by (with_reducible repeat (first | refine kN ?_ _ | refine kD ?_ | refine kA ?_ _)); exact BK418.out) hb); have n6_ := aM (bS (by repeat (first | (with_reducible first | exact HB.out | apply bA | apply pN | apply bD | refine below_set ?_ GE393.out | refine below_set ?_ GE418.out) | exact HB.out)) hb); clear HO414 HO417 HO421 BK393 BK418 HB; have HO414 := n0_; have HO417 := n1_; have HO421 := n2_; have HO424 := n3_; have BK393 := n4_; have BK418 := n5_; have HB := n6_; clear n0_ n1_ n2_ n3_ n4_ n5_ n6_
           (try clear hb)
           (try clear hb2)
           (try clear hk)
           (try clear hi)
           (try clear ho0)
           obtain ⟨Ao49, co49, eo49⟩ := Kd.R_slice HO421.out
           (first | subst eo49 | (injection eo49 with f1_ f2_ f3_; have f4_ := f1_.symm; have f5_ := f3_.symm; clear f1_ f2_ f3_; subst f4_; subst f5_))
           obtain ⟨Ao50, co50, eo50⟩ := Kd.R_slice HO424.out
           (first | subst eo50 | (injection eo50 with f1_ f2_ f3_; have f4_ := f1_.symm; have f5_ := f3_.symm; clear f1_ f2_ f3_; subst f4_; subst f5_))
           refine hK.out _ _ ⟨(blk_cell BK418.out 0).trans rfl, (blk_cell BK418.out 1).trans rfl, (blk_cell BK393.out 0).trans rfl, (blk_cell BK393.out 1).trans rfl⟩ (fun hHeld => ?_)
           clear hK K
           refine norm_ (a' := ?_) ?_ ?_
           rotate_left
           ·show Act.put _ (some 76) _ = _
            simp only [Act.put, sI, sZ, sS, i64_w, i32_w]
            rfl
           refine one_ (i := 10) (N := some 77) #[true, true, true, true, true, true, true, true, true, true, true, false] rfl rfl (one_of HT_.out (by kernel_rfl)) (by decide) (fun K hK => ?_)
           refine goes_ Try.func77 (by kernel_rfl) rfl #[.slice Ao49 t419.length co49, .slice Ao50 t422.length co50] (by rfl) rfl rfl (by (try simp only [mA, List.map_cons, List.map_nil]); first | done | rfl | (simp only [List.length_drop, List.length_take]; rfl)) ?_
           with_reducible refine (nat_Cmp.calls k2 _ _ t419 _ _ t422 t425 _ ?side1 ?side2 ?side3 ?side4 A37.out).mono ?_
           (case side1 => repeat (first | exact (Kd.R_reads' HO421.out).2.2 | (with_reducible refine cA ?_ _) | (with_reducible refine cN ?_ _) | (with_reducible refine cD ?_)))
           (case side2 => exact (Kd.R_reads' HO421.out).2.1)
           (case side3 => repeat (first | exact (Kd.R_reads' HO424.out).2.2 | (with_reducible refine cA ?_ _) | (with_reducible refine cN ?_ _) | (with_reducible refine cD ?_)))
           (case side4 => exact (Kd.R_reads' HO424.out).2.1)
           rintro e w' ⟨rfl, ⟨nd, rfl⟩⟩
           refine ⟨_, rfl, ?_⟩
           refine hK.out _ _ ⟨(blk_cell BK418.out 0).trans rfl, (blk_cell BK418.out 1).trans rfl, (blk_cell BK393.out 0).trans rfl, (blk_cell BK393.out 1).trans rfl⟩ (fun hHeld => ?_)
           clear hK K
           refine norm_ (a' := ?_) ?_ ?_
           rotate_left
           ·show Act.put _ (some 77) _ = _
            simp only [Act.put, sI, sZ, sS, i64_w, i32_w]
            rfl
           refine pure_ (i := 11) (N := some 78) (v := ?_) (a' := ?_) #[true, true, true, true, true, true, true, true, true, true, true, true] rfl rfl (any_of HT_.out (by kernel_rfl)) (fun _ _ _ h => h) (Or.inl ⟨by rfl, ?_⟩) ?_ ?_
           rotate_left
           ·intro w'
            go_simp
            with_reducible rfl
           rotate_left
           ·simp only [Act.put, sI, sZ, sS, i64_w, i32_w]
            rfl
           refine done_ (done_of HT_.out (by kernel_rfl)) ?_
           try go_wp2
           go_roundg k2
           case measure => have := HJ4.out; have := HK2.out; omega
           case rel => exact ⟨(x8_2), (wrap64 (Int.tdiv (wrap64 (x8_2 + x9_2)) 2)), (by first | rfl | (simp; done) | (simp [*]; done)), (by first | rfl | (simp; done) | (simp [*]; done)), H', ⟨by have := HJ4.out; have := HK2.out; omega⟩, ⟨by (with_reducible repeat (first | refine kN ?_ _ | refine kD ?_ | refine kA ?_ _)); exact BK393.out⟩, ⟨by repeat (first | (with_reducible first | exact HB.out | apply bA | apply pN | apply bD | refine below_set ?_ GE393.out | refine below_set ?_ GE418.out) | exact HB.out)⟩⟩
          ·rw [if_neg c38] at H
           have c38b0 : decide (0 ≤ t425) = false := decide_eq_false c38
           clear c38; have H' := aM H; clear H
           try go_wp2_with (first | ((with_reducible refine gC (f := 76) rfl ?_); refine gL (some 66) rfl rfl Try.func76 (by kernel_rfl) rfl #[.pointer (some ad407), .int .i64 x7_4, .int .i64 (wrap64 (Int.tdiv (wrap64 (x8_2 + x9_2)) 2))] rfl (by (try simp only [mA, List.map_cons, List.map_nil]); first | done | rfl | (simp only [List.length_drop, List.length_take]; rfl)) ?_; (with_reducible refine (load_line_area.calls k2 _ c0 l0 x7_4 (wrap64 (Int.tdiv (wrap64 (x8_2 + x9_2)) 2)) t412 t415 _ ?side1 ?side2 A34.out).mono ?_); (case side1 => repeat (first | exact (Kd.C_below HR0.out HB.out) | (with_reducible refine cA ?_ _) | (with_reducible refine cN ?_ _) | (with_reducible refine cD ?_))); (case side2 => exact HC0.out); rintro e w51 ⟨v413, v416, rfl, ho0, ho1, hb⟩; refine ⟨_, rfl, ?_⟩; have n0_ := aM (Kd.R_lower ho0 (below_size (by repeat (first | (with_reducible first | exact HB.out | apply bA | apply pN | apply bD | refine below_set ?_ GE393.out) | exact HB.out)))); have n1_ := aM (Kd.R_lower ho1 (below_size (by repeat (first | (with_reducible first | exact HB.out | apply bA | apply pN | apply bD | refine below_set ?_ GE393.out) | exact HB.out)))); have n2_ := aM (blk_below (g := gb393) (o := .cells #[.slice A1_0 l1_0.length c1_0, .slice A1_1 l1_1.length c1_1] 102 (0, 0)) (by (with_reducible repeat (first | refine kN ?_ _ | refine kD ?_ | refine kA ?_ _)); exact BK393.out) hb); have n3_ := aM (bS (by repeat (first | (with_reducible first | exact HB.out | apply bA | apply pN | apply bD | refine below_set ?_ GE393.out) | exact HB.out)) hb); clear BK393 HB; have HO414 := n0_; have HO417 := n1_; have BK393 := n2_; have HB := n3_; clear n0_ n1_ n2_ n3_; (try clear hb); (try clear hb2); (try clear hk); (try clear hi); (try clear ho0); (try clear ho1)) | ((with_reducible refine gate_dst (N := 11) rfl ?_); refine box_event ?hg (N := 11) ?hd (cs := #[.slice none 0 0, .slice none 0 0]) (t := 102) ?hr ?_; (case hd => rfl); (case hg => rfl); (case hr => first | (go_simp; done) | (go_simp; rfl)); intro gb418 hg w52 hbox hb; have n0_ := aM (Kd.R_below (by (with_reducible repeat (first | apply rA | apply rN | apply rD)); exact HO414.out) hb); have n1_ := aM (Kd.R_below (by (with_reducible repeat (first | apply rA | apply rN | apply rD)); exact HO417.out) hb); have n2_ := aM (blk_below (g := gb393) (o := .cells #[.slice A1_0 l1_0.length c1_0, .slice A1_1 l1_1.length c1_1] 102 (0, 0)) (by (with_reducible repeat (first | refine kN ?_ _ | refine kD ?_ | refine kA ?_ _)); exact BK393.out) hb); have n3_ := aM (bS (by repeat (first | (with_reducible first | exact HB.out | apply bA | apply pN | apply bD | refine below_set ?_ GE393.out) | exact HB.out)) hb); have n4_ := aM (hbox); have n5_ := aM ((by rw [hg]; exact (below_size (by repeat (first | (with_reducible first | exact HB.out | apply bA | apply pN | apply bD | refine below_set ?_ GE393.out) | exact HB.out))) : w.heap.size ≤ gb418)); have n6_ := aM ((by rw [hg]; exact (below_size (by repeat (first | (with_reducible first | exact HB.out | apply bA | apply pN | apply bD | refine below_set ?_ GE393.out) | exact HB.out))) : w.heap.size ≤ gb418)); have n7_ := aM ((by rw [hg]; exact Nat.ne_of_lt (blk_lt (g := gb393) (o := .cells #[.slice A1_0 l1_0.length c1_0, .slice A1_1 l1_1.length c1_1] 102 (0, 0)) (by (with_reducible repeat (first | refine kN ?_ _ | refine kD ?_ | refine kA ?_ _)); exact BK393.out)) : gb393 ≠ gb418)); have n8_ := aM ((by rw [hg]; exact Nat.ne_of_gt (blk_lt (g := gb393) (o := .cells #[.slice A1_0 l1_0.length c1_0, .slice A1_1 l1_1.length c1_1] 102 (0, 0)) (by (with_reducible repeat (first | refine kN ?_ _ | refine kD ?_ | refine kA ?_ _)); exact BK393.out)) : gb418 ≠ gb393)); clear HO414 HO417 BK393 HB; have HO414 := n0_; have HO417 := n1_; have BK393 := n2_; have HB := n3_; have BK418 := n4_; have GW418 := n5_; have GE418 := n6_; have NB393_418 := n7_; have NB418_393 := n8_; clear n0_ n1_ n2_ n3_ n4_ n5_ n6_ n7_ n8_ hb hbox hg; obtain ⟨Ao53, co53, eo53⟩ := Kd.R_slice HO414.out; subst eo53; have hnb54 := NB418_393.out; have hnc54 := NB393_418.out; have hcz55_0 : w52.cell? ⟨gb418, 0, none⟩ = some (.slice none 0 0) := (blk_cell BK418.out 0).trans rfl; have hcz55_1 : w52.cell? ⟨gb418, 1, none⟩ = some (.slice none 0 0) := (blk_cell BK418.out 1).trans rfl; have hfz55_0 := blk_frozen BK418.out 0; have hfz55_1 := blk_frozen BK418.out 1; obtain ⟨Ao56, co56, eo56⟩ := Kd.R_slice HO417.out; subst eo56))
           have n0_ : Aside0 (Kd.R (Kd.int .u64) 85 ((w52.setCell ⟨gb418, 0, none⟩ (.slice Ao53 t412.length co53)).setCell ⟨gb418, 1, none⟩ (.slice Ao56 t415.length co56)) w.heap.size (fun k_ => some k_ ≠ (.slice Ao56 t415.length co56 : Value).ownBlock) (.slice Ao53 t412.length co53) t412) := ⟨by (with_reducible repeat (first | apply rA | apply rN | apply rD)); exact Kd.R_mono (Kd.R_far (p := ⟨gb418, 1, none⟩) (Kd.R_far (p := ⟨gb418, 0, none⟩) (Kd.R_types HO414.out BK418.out (by decide)) (fun _ hk => hk.2) (.slice Ao53 t412.length co53)) (fun _ hk => hk.2) (.slice Ao56 t415.length co56)) (fun _ hk => hk.1)⟩
           have n1_ : Aside0 (Kd.R (Kd.int .u64) 85 ((w52.setCell ⟨gb418, 0, none⟩ (.slice Ao53 t412.length co53)).setCell ⟨gb418, 1, none⟩ (.slice Ao56 t415.length co56)) w.heap.size (fun k_ => some k_ ≠ (.slice Ao53 t412.length co53 : Value).ownBlock) (.slice Ao56 t415.length co56) t415) := ⟨by (with_reducible repeat (first | apply rA | apply rN | apply rD)); exact Kd.R_mono (Kd.R_far (p := ⟨gb418, 1, none⟩) (Kd.R_far (p := ⟨gb418, 0, none⟩) (Kd.R_types HO417.out BK418.out (by decide)) (fun _ hk => hk.2) (.slice Ao53 t412.length co53)) (fun _ hk => hk.2) (.slice Ao56 t415.length co56)) (fun _ hk => hk.1)⟩
           have n2_ : Aside0 (((w52.setCell ⟨gb418, 0, none⟩ (.slice Ao53 t412.length co53)).setCell ⟨gb418, 1, none⟩ (.slice Ao56 t415.length co56)).heap[gb393]? = some (.cells #[.slice A1_0 l1_0.length c1_0, .slice A1_1 l1_1.length c1_1] 102 (0, 0))) := ⟨by (with_reducible repeat (first | refine kN ?_ _ | refine kD ?_ | refine kA ?_ _)); refine blk_far ?_ NB393_418.out _; (with_reducible repeat (first | refine kN ?_ _ | refine kD ?_ | refine kA ?_ _)); refine blk_far ?_ NB393_418.out _; (with_reducible repeat (first | refine kN ?_ _ | refine kD ?_ | refine kA ?_ _)); exact BK393.out⟩
           have n3_ : Aside0 (((w52.setCell ⟨gb418, 0, none⟩ (.slice Ao53 t412.length co53)).setCell ⟨gb418, 1, none⟩ (.slice Ao56 t415.length co56)).heap[gb418]? = some (.cells #[.slice Ao53 t412.length co53, .slice Ao56 t415.length co56] 102 (0, 0))) := ⟨by (with_reducible repeat (first | refine kN ?_ _ | refine kD ?_ | refine kA ?_ _)); refine blk_put (cs := #[.slice Ao53 t412.length co53, .slice none 0 0]) ?_ 1 _ rfl; (with_reducible repeat (first | refine kN ?_ _ | refine kD ?_ | refine kA ?_ _)); refine blk_put (cs := #[.slice none 0 0, .slice none 0 0]) ?_ 0 _ rfl; (with_reducible repeat (first | refine kN ?_ _ | refine kD ?_ | refine kA ?_ _)); exact BK418.out⟩
           have n4_ : Aside0 (Below w.heap.size w ((w52.setCell ⟨gb418, 0, none⟩ (.slice Ao53 t412.length co53)).setCell ⟨gb418, 1, none⟩ (.slice Ao56 t415.length co56))) := ⟨by repeat (first | (with_reducible first | exact HB.out | apply bA | apply pN | apply bD | refine below_set ?_ GE393.out | refine below_set ?_ GE418.out) | exact HB.out)⟩
           (try clear HO414)
           (try clear HO417)
           (try clear BK393)
           (try clear BK418)
           (try clear HB)
           generalize ((w52.setCell ⟨gb418, 0, none⟩ (.slice Ao53 t412.length co53)).setCell ⟨gb418, 1, none⟩ (.slice Ao56 t415.length co56)) = w57 at n0_ n1_ n2_ n3_ n4_ ⊢
           have HO414 := n0_; have HO417 := n1_; have BK393 := n2_; have BK418 := n3_; have HB := n4_; clear n0_ n1_ n2_ n3_ n4_; have n0_ := aM (rD HO414.out); have n1_ := aM (rD HO417.out); have n2_ := aM (kD BK393.out); have n3_ := aM (kD BK418.out); have n4_ := aM (bD HB.out); clear HO414 HO417 BK393 BK418 HB; have HO414 := n0_; have HO417 := n1_; have BK393 := n2_; have BK418 := n3_; have HB := n4_; clear n0_ n1_ n2_ n3_ n4_
           refine start_ (n := 12) (S := fun w' => w'.cell? ⟨gb418, 0, none⟩ = some (.slice Ao53 t412.length co53) ∧ w'.cell? ⟨gb418, 1, none⟩ = some (.slice Ao56 t415.length co56) ∧ w'.cell? ⟨gb393, 0, none⟩ = some (.slice A1_0 l1_0.length c1_0) ∧ w'.cell? ⟨gb393, 1, none⟩ = some (.slice A1_1 l1_1.length c1_1)) (ds := []) #[false, false, false, false, false, false, false, false, false, false, false, false] (by kernel_rfl) rfl rfl ⟨(blk_cell BK418.out 0).trans rfl, (blk_cell BK418.out 1).trans rfl, (blk_cell BK393.out 0).trans rfl, (blk_cell BK393.out 1).trans rfl⟩ (fun hHeld => ?_); refine with_tabW load_line_first.tab11 load_line_first.bits11 (fun HT_ HW_ => ?_)
           generalize w57.drew = w58 at HO414 HO417 BK393 BK418 HB hHeld ⊢
           refine pure_ (i := 0) (N := some 67) (v := ?_) (a' := ?_) #[true, false, false, false, false, false, false, false, false, false, false, false] rfl rfl (any_of HT_.out (by kernel_rfl)) (fun _ _ _ h => h) (Or.inl ⟨by rfl, ?_⟩) ?_ ?_
           rotate_left
           ·intro w'
            go_simp
            with_reducible rfl
           rotate_left
           ·simp only [Act.put, sI, sZ, sS, i64_w, i32_w]
            rfl
           refine pure_ (i := 2) (N := some 69) (v := ?_) (a' := ?_) #[true, false, true, false, false, false, false, false, false, false, false, false] rfl rfl (any_of HT_.out (by kernel_rfl)) (fun _ _ _ h => h) (Or.inl ⟨by rfl, ?_⟩) ?_ ?_
           rotate_left
           ·intro w'
            go_simp
            with_reducible rfl
           rotate_left
           ·simp only [Act.put, sI, sZ, sS, i64_w, i32_w]
            rfl
           refine pure_ (i := 5) (N := some 72) (v := ?_) (a' := ?_) #[true, false, true, false, false, true, false, false, false, false, false, false] rfl rfl (any_of HT_.out (by kernel_rfl)) (fun _ _ _ h => h) (Or.inl ⟨by rfl, ?_⟩) ?_ ?_
           rotate_left
           ·intro w'
            go_simp
            with_reducible rfl
           rotate_left
           ·simp only [Act.put, sI, sZ, sS, i64_w, i32_w]
            rfl
           refine pure_ (i := 7) (N := some 74) (v := ?_) (a' := ?_) #[true, false, true, false, false, true, false, true, false, false, false, false] rfl rfl (any_of HT_.out (by kernel_rfl)) (fun _ _ _ h => h) (Or.inl ⟨by rfl, ?_⟩) ?_ ?_
           rotate_left
           ·intro w'
            go_simp
            with_reducible rfl
           rotate_left
           ·simp only [Act.put, sI, sZ, sS, i64_w, i32_w]
            rfl
           refine take_ (i := 1) (N := some 68) (v := ?_) (a' := ?_) #[true, true, true, false, false, true, false, true, false, false, false, false] rfl rfl (take_ofW HT_.out HW_.out (by kernel_rfl)) (fun _ _ _ h => h) (Or.inl ⟨by rfl, ?_⟩) hHeld ?_ ?_
           rotate_left
           ·rintro w' ⟨s0, s1, s2, s3⟩
            go_simp
            with_reducible rfl
           rotate_left
           ·simp only [Act.put, sI, sZ, sS, i64_w, i32_w]
            rfl
           refine take_ (i := 3) (N := some 70) (v := ?_) (a' := ?_) #[true, true, true, true, false, true, false, true, false, false, false, false] rfl rfl (take_ofW HT_.out HW_.out (by kernel_rfl)) (fun _ _ _ h => h) (Or.inl ⟨by rfl, ?_⟩) hHeld ?_ ?_
           rotate_left
           ·rintro w' ⟨s0, s1, s2, s3⟩
            go_simp
            with_reducible rfl
           rotate_left
           ·simp only [Act.put, sI, sZ, sS, i64_w, i32_w]
            rfl
           refine take_ (i := 6) (N := some 73) (v := ?_) (a' := ?_) #[true, true, true, true, false, true, true, true, false, false, false, false] rfl rfl (take_ofW HT_.out HW_.out (by kernel_rfl)) (fun _ _ _ h => h) (Or.inl ⟨by rfl, ?_⟩) hHeld ?_ ?_
           rotate_left
           ·rintro w' ⟨s0, s1, s2, s3⟩
            go_simp
            with_reducible rfl
           rotate_left
           ·simp only [Act.put, sI, sZ, sS, i64_w, i32_w]
            rfl
           refine take_ (i := 8) (N := some 75) (v := ?_) (a' := ?_) #[true, true, true, true, false, true, true, true, true, false, false, false] rfl rfl (take_ofW HT_.out HW_.out (by kernel_rfl)) (fun _ _ _ h => h) (Or.inl ⟨by rfl, ?_⟩) hHeld ?_ ?_
           rotate_left
           ·rintro w' ⟨s0, s1, s2, s3⟩
            go_simp
            with_reducible rfl
           rotate_left
           ·simp only [Act.put, sI, sZ, sS, i64_w, i32_w]
            rfl
           refine one_ (i := 4) (N := some 71) #[true, true, true, true, true, true, true, true, true, false, false, false] rfl rfl (one_of HT_.out (by kernel_rfl)) (by decide) (fun K hK => ?_)
           refine goes_ Try.func74 (by kernel_rfl) rfl #[.slice Ao53 t412.length co53, .slice A1_1 l1_1.length c1_1] (by rfl) rfl rfl (by (try simp only [mA, List.map_cons, List.map_nil]); first | done | rfl | (simp only [List.length_drop, List.length_take]; rfl)) ?_
           with_reducible refine (nat_Mul.calls k2 _ _ t412 _ _ l1_1 t419 _ ?side1 ?side2 ?side3 ?side4 A35.out).mono ?_
           (case side1 => repeat (first | exact (Kd.R_reads' HO414.out).2.2 | (with_reducible refine cA ?_ _) | (with_reducible refine cN ?_ _) | (with_reducible refine cD ?_)))
           (case side2 => exact (Kd.R_reads' HO414.out).2.1)
           (case side3 => repeat (first | exact (Kd.C_below HR1_1.out HB.out) | (with_reducible refine cA ?_ _) | (with_reducible refine cN ?_ _) | (with_reducible refine cD ?_)))
           (case side4 => exact HC1_1.out)
           rintro e w59 ⟨v420, rfl, ho0, hb⟩
           refine ⟨_, rfl, ?_⟩
           have n0_ := aM (Kd.R_elder' (by (with_reducible repeat (first | apply rA | apply rN | apply rD)); exact HO414.out) (Kd.R_base ho0) hb); have n1_ := aM (Kd.R_elder' (by (with_reducible repeat (first | apply rA | apply rN | apply rD)); exact HO417.out) (Kd.R_base ho0) hb); have n2_ := aM (Kd.R_lower (Kd.R_new' (Kd.R_new' ho0 (Kd.R_lt (by (with_reducible repeat (first | apply rA | apply rN | apply rD)); exact HO414.out))) (Kd.R_lt (by (with_reducible repeat (first | apply rA | apply rN | apply rD)); exact HO417.out))) (below_size (by repeat (first | (with_reducible first | exact HB.out | apply bA | apply pN | apply bD | refine below_set ?_ GE393.out | refine below_set ?_ GE418.out) | exact HB.out)))); have n3_ := aM (blk_below (g := gb393) (o := .cells #[.slice A1_0 l1_0.length c1_0, .slice A1_1 l1_1.length c1_1] 102 (0, 0)) (by (with_reducible repeat (first | refine kN ?_ _ | refine kD ?_ | refine kA ?_ _)); exact BK393.out) hb); have n4_ := aM (blk_below (g := gb418) (o := .cells #[.slice Ao53 t412.length co53, .slice Ao56 t415.length co56] 102 (0, 0)) (by (with_reducible repeat (first | refine kN ?_ _ | refine kD ?_ | refine kA ?_ _)); exact BK418.out) hb); have n5_ := aM (bS (by repeat (first | (with_reducible first | exact HB.out | apply bA | apply pN | apply bD | refine below_set ?_ GE393.out | refine below_set ?_ GE418.out) | exact HB.out)) hb); clear HO414 HO417 BK393 BK418 HB; have HO414 := n0_; have HO417 := n1_; have HO421 := n2_; have BK393 := n3_; have BK418 := n4_; have HB := n5_; clear n0_ n1_ n2_ n3_ n4_ n5_
           (try clear hb)
           (try clear hb2)
           (try clear hk)
           (try clear hi)
           (try clear ho0)
           refine hK.out _ _ ⟨(blk_cell BK418.out 0).trans rfl, (blk_cell BK418.out 1).trans rfl, (blk_cell BK393.out 0).trans rfl, (blk_cell BK393.out 1).trans rfl⟩ (fun hHeld => ?_)
           clear hK K
           refine norm_ (a' := ?_) ?_ ?_
           rotate_left
           ·show Act.put _ (some 71) _ = _
            simp only [Act.put, sI, sZ, sS, i64_w, i32_w]
            rfl
           refine one_ (i := 9) (N := some 76) #[true, true, true, true, true, true, true, true, true, true, false, false] rfl rfl (one_of HT_.out (by kernel_rfl)) (by decide) (fun K hK => ?_)
           refine goes_ Try.func74 (by kernel_rfl) rfl #[.slice A1_0 l1_0.length c1_0, .slice Ao56 t415.length co56] (by rfl) rfl rfl (by (try simp only [mA, List.map_cons, List.map_nil]); first | done | rfl | (simp only [List.length_drop, List.length_take]; rfl)) ?_
           with_reducible refine (nat_Mul.calls k2 _ _ l1_0 _ _ t415 t422 _ ?side1 ?side2 ?side3 ?side4 A36.out).mono ?_
           (case side1 => repeat (first | exact (Kd.C_below HR1_0.out HB.out) | (with_reducible refine cA ?_ _) | (with_reducible refine cN ?_ _) | (with_reducible refine cD ?_)))
           (case side2 => exact HC1_0.out)
           (case side3 => repeat (first | exact (Kd.R_reads' HO417.out).2.2 | (with_reducible refine cA ?_ _) | (with_reducible refine cN ?_ _) | (with_reducible refine cD ?_)))
           (case side4 => exact (Kd.R_reads' HO417.out).2.1)
           rintro e w60 ⟨v423, rfl, ho0, hb⟩
           refine ⟨_, rfl, ?_⟩
           have n0_ := aM (Kd.R_elder' (by (with_reducible repeat (first | apply rA | apply rN | apply rD)); exact HO414.out) (Kd.R_base ho0) hb); have n1_ := aM (Kd.R_elder' (by (with_reducible repeat (first | apply rA | apply rN | apply rD)); exact HO417.out) (Kd.R_base ho0) hb); have n2_ := aM (Kd.R_elder' (by (with_reducible repeat (first | apply rA | apply rN | apply rD)); exact HO421.out) (Kd.R_base ho0) hb); have n3_ := aM (Kd.R_lower (Kd.R_new' (Kd.R_new' (Kd.R_new' ho0 (Kd.R_lt (by (with_reducible repeat (first | apply rA | apply rN | apply rD)); exact HO414.out))) (Kd.R_lt (by (with_reducible repeat (first | apply rA | apply rN | apply rD)); exact HO417.out))) (Kd.R_lt (by (with_reducible repeat (first | apply rA | apply rN | apply rD)); exact HO421.out))) (below_size (by repeat (first | (with_reducible first | exact HB.out | apply bA | apply pN | apply bD | refine below_set ?_ GE393.out | refine below_set ?_ GE418.out) | exact HB.out)))); have n4_ := aM (blk_below (g := gb393) (o := .cells #[.slice A1_0 l1_0.length c1_0, .slice A1_1 l1_1.length c1_1] 102 (0, 0)) (by (with_reducible repeat (first | refine kN ?_ _ | refine kD ?_ | refine kA ?_ _)); exact BK393.out) hb); have n5_ := aM (blk_below (g := gb418) (o := .cells #[.slice Ao53 t412.length co53, .slice Ao56 t415.length co56] 102 (0, 0)) (by (with_reducible repeat (first | refine kN ?_ _ | refine kD ?_ | refine kA ?_ _)); exact BK418.out) hb); have n6_ := aM (bS (by repeat (first | (with_reducible first | exact HB.out | apply bA | apply pN | apply bD | refine below_set ?_ GE393.out | refine below_set ?_ GE418.out) | exact HB.out)) hb); clear HO414 HO417 HO421 BK393 BK418 HB; have HO414 := n0_; have HO417 := n1_; have HO421 := n2_; have HO424 := n3_; have BK393 := n4_; have BK418 := n5_; have HB := n6_; clear n0_ n1_ n2_ n3_ n4_ n5_ n6_
           (try clear hb)
           (try clear hb2)
           (try clear hk)
           (try clear hi)
           (try clear ho0)
           obtain ⟨Ao61, co61, eo61⟩ := Kd.R_slice HO421.out
           (first | subst eo61 | (injection eo61 with f1_ f2_ f3_; have f4_ := f1_.symm; have f5_ := f3_.symm; clear f1_ f2_ f3_; subst f4_; subst f5_))
           obtain ⟨Ao62, co62, eo62⟩ := Kd.R_slice HO424.out
           (first | subst eo62 | (injection eo62 with f1_ f2_ f3_; have f4_ := f1_.symm; have f5_ := f3_.symm; clear f1_ f2_ f3_; subst f4_; subst f5_))
           refine hK.out _ _ ⟨(blk_cell BK418.out 0).trans rfl, (blk_cell BK418.out 1).trans rfl, (blk_cell BK393.out 0).trans rfl, (blk_cell BK393.out 1).trans rfl⟩ (fun hHeld => ?_)
           clear hK K
           refine norm_ (a' := ?_) ?_ ?_
           rotate_left
           ·show Act.put _ (some 76) _ = _
            simp only [Act.put, sI, sZ, sS, i64_w, i32_w]
            rfl
           refine one_ (i := 10) (N := some 77) #[true, true, true, true, true, true, true, true, true, true, true, false] rfl rfl (one_of HT_.out (by kernel_rfl)) (by decide) (fun K hK => ?_)
           refine goes_ Try.func77 (by kernel_rfl) rfl #[.slice Ao61 t419.length co61, .slice Ao62 t422.length co62] (by rfl) rfl rfl (by (try simp only [mA, List.map_cons, List.map_nil]); first | done | rfl | (simp only [List.length_drop, List.length_take]; rfl)) ?_
           with_reducible refine (nat_Cmp.calls k2 _ _ t419 _ _ t422 t425 _ ?side1 ?side2 ?side3 ?side4 A37.out).mono ?_
           (case side1 => repeat (first | exact (Kd.R_reads' HO421.out).2.2 | (with_reducible refine cA ?_ _) | (with_reducible refine cN ?_ _) | (with_reducible refine cD ?_)))
           (case side2 => exact (Kd.R_reads' HO421.out).2.1)
           (case side3 => repeat (first | exact (Kd.R_reads' HO424.out).2.2 | (with_reducible refine cA ?_ _) | (with_reducible refine cN ?_ _) | (with_reducible refine cD ?_)))
           (case side4 => exact (Kd.R_reads' HO424.out).2.1)
           rintro e w' ⟨rfl, ⟨nd, rfl⟩⟩
           refine ⟨_, rfl, ?_⟩
           refine hK.out _ _ ⟨(blk_cell BK418.out 0).trans rfl, (blk_cell BK418.out 1).trans rfl, (blk_cell BK393.out 0).trans rfl, (blk_cell BK393.out 1).trans rfl⟩ (fun hHeld => ?_)
           clear hK K
           refine norm_ (a' := ?_) ?_ ?_
           rotate_left
           ·show Act.put _ (some 77) _ = _
            simp only [Act.put, sI, sZ, sS, i64_w, i32_w]
            rfl
           refine pure_ (i := 11) (N := some 78) (v := ?_) (a' := ?_) #[true, true, true, true, true, true, true, true, true, true, true, true] rfl rfl (any_of HT_.out (by kernel_rfl)) (fun _ _ _ h => h) (Or.inl ⟨by rfl, ?_⟩) ?_ ?_
           rotate_left
           ·intro w'
            go_simp
            with_reducible rfl
           rotate_left
           ·simp only [Act.put, sI, sZ, sS, i64_w, i32_w]
            rfl
           refine done_ (done_of HT_.out (by kernel_rfl)) ?_
           try go_wp2
           go_roundg k2
           case measure => have := HJ4.out; have := HK2.out; omega
           case rel => exact ⟨(wrap64 ((wrap64 (Int.tdiv (wrap64 (x8_2 + x9_2)) 2)) + 1)), (x9_2), (by first | rfl | (simp; done) | (simp [*]; done)), (by first | rfl | (simp; done) | (simp [*]; done)), H', ⟨by have := HJ4.out; have := HK2.out; omega⟩, ⟨by (with_reducible repeat (first | refine kN ?_ _ | refine kD ?_ | refine kA ?_ _)); exact BK393.out⟩, ⟨by repeat (first | (with_reducible first | exact HB.out | apply bA | apply pN | apply bD | refine below_set ?_ GE393.out | refine below_set ?_ GE418.out) | exact HB.out)⟩⟩
         ·rw [if_neg c33] at H
          have c33b0 : decide (x8_2 < x9_2) = false := decide_eq_false c33
          clear c33
          by_cases c63 : 0 < (l0.length : Int)
          ·rw [if_pos c63] at H
           have c63b0 : decide (0 < (l0.length : Int)) = true := dT c63
           have c63b1 : decide (0 < l0.length) = true := dT (by omega)
           clear c63
           by_cases c64 : 0 ≤ x7_4
           ·rw [if_pos c64] at H
            have c64b0 : decide (0 ≤ x7_4) = true := dT c64
            clear c64
            by_cases c65 : x7_4 < (((rd_T96 l0 0).f1).length : Int)
            ·rw [if_pos c65] at H
             have c65b0 : decide (x7_4 < (((rd_T96 l0 0).f1).length : Int)) = true := dT c65
             clear c65
             simp only [Option.some.injEq, Prod.mk.injEq] at H
             obtain ⟨rfl, rfl⟩ := H
             have p410 : 0 ≤ (0 : Int) := (by omega)
             have q410 : 0 < (l0.length : Int) := oD (by first | (with_reducible assumption) | assumption)
             obtain ⟨ad410, A410_0, c410_0, A410_1, c410_1, A410_2, c410_2, e410, hx410_0, hx410_1, hx410_2, hl410_0, hi410_0, hl410_1, hi410_1, hl410_2, hi410_2⟩ := at_T96 HR0.out 0 p410 q410
             have hv410_0 := hx410_0
             have hv410_1 := hx410_1
             have hv410_2 := hx410_2
             obtain rfl : ad407 = ad410 := (by injection e410)
             have qi410 : (0 < l0.length) = True := eq_true (by omega)
             (try rw [show ((0 : Int)).toNat = 0 from rfl] at hx410_0)
             (try rw [show 0 * 3 = 0 from rfl] at hx410_0)
             (try rw [Addr.add_zero'] at hx410_0)
             (try rw [show ((0 : Int)).toNat = 0 from rfl] at hx410_1)
             (try rw [show 0 * 3 = 0 from rfl] at hx410_1)
             (try rw [Addr.add_zero'] at hx410_1)
             (try rw [show ((0 : Int)).toNat = 0 from rfl] at hx410_2)
             (try rw [show 0 * 3 = 0 from rfl] at hx410_2)
             (try rw [Addr.add_zero'] at hx410_2)
             replace hx410_0 := (HB.out.cell (World.block_lt_of_cell? w _ hx410_0)).trans hx410_0
             replace hx410_1 := (HB.out.cell (World.block_lt_of_cell? w _ hx410_1)).trans hx410_1
             replace hx410_2 := (HB.out.cell (World.block_lt_of_cell? w _ hx410_2)).trans hx410_2
             have HR410_0 := aM hi410_0
             have HC410_0 := aM hl410_0
             clear hi410_0 hl410_0
             have HR410_1 := aM hi410_1
             have HC410_1 := aM hl410_1
             clear hi410_1 hl410_1
             have HR410_2 := aM hi410_2
             have HC410_2 := aM hl410_2
             clear hi410_2 hl410_2
             replace p410 := eq_true p410
             replace q410 := eq_true q410
             have p411 : 0 ≤ (x7_4 : Int) := oD (by first | (with_reducible assumption) | assumption)
             have q411 : x7_4 < (((rd_T96 l0 0).f1).length : Int) := oD (by first | (with_reducible assumption) | assumption)
             obtain ⟨ad411, e411, hx411_0⟩ := Kd.at_int HR410_1.out x7_4 p411 q411
             cases e411
             replace hx411_0 := (HB.out.cell (World.block_lt_of_cell? w _ hx411_0)).trans hx411_0
             replace p411 := eq_true p411
             replace q411 := eq_true q411
             go_wp2
             go_ret2
             exact ⟨by first | rfl | (simp [errW_none, errW_some] <;> rfl) | (simp [*, errW_none, errW_some] <;> rfl), by repeat (first | (with_reducible first | exact HB.out | apply bA | apply pN | apply bD | refine below_set ?_ GE393.out) | exact HB.out)⟩
            ·rw [if_neg c65] at H
             exact absurd H (by simp)
           ·rw [if_neg c64] at H
            exact absurd H (by simp)
          ·rw [if_neg c63] at H
           exact absurd H (by simp)
      ·rw [if_neg c31] at H
       exact absurd H (by simp)
     ·rw [if_neg c30] at H
      exact absurd H (by simp)
   ·rw [if_neg c28] at H
    exact absurd H (by simp)
end Go.Proofs.Ytjfldeoddjicoaa.QLoadCountAddsUp
