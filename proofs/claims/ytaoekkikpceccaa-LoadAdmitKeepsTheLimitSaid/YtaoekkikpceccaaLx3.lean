/- Lean functions that answer as Go functions of this seat do, each with its proof. Condition: the Lean function answers 'some'. -/
import Derived.Test.YtaoekkikpceccaaLx0
import Derived.Test.YtaoekkikpceccaaLx1
import Derived.Test.YtaoekkikpceccaaLx2
namespace Go.Proofs.Ytaoekkikpceccaa.QLoadAdmitKeepsTheLimit
open Go.RowKit Go.Proofs.YtaoekkikpceccaaW.PrintWords Go.Proofs.YtaoekkikpceccaaW.PrintLast Go.Proofs.YtaoekkikpceccaaW.PrintMore
attribute [local go_sem] max2_int min2_int max_two min_two
set_option linter.unusedVariables false
set_option maxHeartbeats 8000000
set_option maxRecDepth 100000
set_option linter.unusedSimpArgs false
def load_vessel_take.f (k : Nat) (s0_0 : Int) (s0_1 : Int) (s0_2 : Int) (s0_3 : Int) (a1 : Int) : Option (Int × Bool × Int × Int × Int × Int) := (load_vessel_fill.f k s0_0 s0_1 s0_2 s0_3 a1).bind fun bt103 => (if (wrap64 (1000000000 - bt103.2.2.1)) > 0 then (if bt103.2.1 = 0 then (some (0, false, bt103.1, bt103.2.1, bt103.2.2.1, bt103.2.2.2)) else ((load_vessel_fill.f k bt103.1 bt103.2.1 bt103.2.2.1 bt103.2.2.2 (wrap64 (bt103.2.2.2 + (wrap64 (Int.tdiv (wrap64 ((wrap64 ((wrap64 (1000000000 - bt103.2.2.1)) + bt103.2.1)) - 1)) bt103.2.1))))).bind fun bt107 => (some (bt107.2.2.2, true, bt107.1, bt107.2.1, wrap64 (bt107.2.2.1 - 1000000000), bt107.2.2.2)))) else (some (bt103.2.2.2, true, bt103.1, bt103.2.1, wrap64 (bt103.2.2.1 - 1000000000), bt103.2.2.2)))
def load_vessel_take.T6 : Bool × List (List Nat × List Nat) := (true, [([], []), ([], []), ([1], [1]), ([2], [2]), ([3], [3]), ([], []), ([], []), ([6], [6]), ([7], [7]), ([8], [8]), ([5, 9], [5, 9]), ([10], [10]), ([], []), ([12], [12]), ([13], [13]), ([14], [14]), ([11, 15], [11, 15]), ([4, 16], [4, 16]), ([0, 17], [0, 17])])
def load_vessel_take.B6 : List Nat := [0, 0, 2, 6, 14, 0, 0, 64, 192, 448, 992, 2016, 0, 4096, 12288, 28672, 65504, 131070, 262143]
theorem load_vessel_take.tab6 : rtab .any (opsOf Try.f11 6) = load_vessel_take.T6 := by kernel_rfl
theorem load_vessel_take.bits6 : waitsOk load_vessel_take.T6.2 load_vessel_take.B6 = true := by kernel_rfl
theorem load_vessel_take.calls (k : Nat) (g : Nat) (s0_0 : Int) (s0_1 : Int) (s0_2 : Int) (s0_3 : Int) (a1 : Int) (r1 : Int) (r2 : Bool) (r3 : Int) (r4 : Int) (r5 : Int) (r6 : Int) (w0 w : World) (hI : IsS35 w0 w g s0_0 s0_1 s0_2 s0_3) (hB : Below w0.heap.size w0 w) (h : load_vessel_take.f k s0_0 s0_1 s0_2 s0_3 a1 = some (r1, r2, r3, r4, r5, r6)) :
  Calls Try.prog 11 #[.pointer (some ⟨g, 0, none⟩), .int .i64 a1] w fun e w' => e = .returned (.tuple #[.int .i64 r1, .bool r2]) ∧ IsS35 w0 w' g r3 r4 r5 r6 ∧ Below w0.heap.size w0 w' ∧ KeepBut w w' g none := by
 have HI0 := aM hI
 have HK := aM (KeepBut.refl w g none)
 have HL := aM hB.size
 clear hI
 have HW0 := aM hB.size
 have HB := aM hB
 clear hB
 have H : ((load_vessel_fill.f k s0_0 s0_1 s0_2 s0_3 a1).bind fun bt103 => (if (wrap64 (1000000000 - bt103.2.2.1)) > 0 then (if bt103.2.1 = 0 then (some (0, false, bt103.1, bt103.2.1, bt103.2.2.1, bt103.2.2.2)) else ((load_vessel_fill.f k bt103.1 bt103.2.1 bt103.2.2.1 bt103.2.2.2 (wrap64 (bt103.2.2.2 + (wrap64 (Int.tdiv (wrap64 ((wrap64 ((wrap64 (1000000000 - bt103.2.2.1)) + bt103.2.1)) - 1)) bt103.2.1))))).bind fun bt107 => (some (bt107.2.2.2, true, bt107.1, bt107.2.1, wrap64 (bt107.2.2.1 - 1000000000), bt107.2.2.2)))) else (some (bt103.2.2.2, true, bt103.1, bt103.2.1, wrap64 (bt103.2.2.1 - 1000000000), bt103.2.2.2)))) = some (r1, r2, r3, r4, r5, r6) := h
 clear h
 replace H := oB H
 obtain ⟨⟨t103, t104, t105, t106⟩, A30, H⟩ := H
 replace H : (if (wrap64 (1000000000 - t105)) > 0 then (if t104 = 0 then (some (0, false, t103, t104, t105, t106)) else ((load_vessel_fill.f k t103 t104 t105 t106 (wrap64 (t106 + (wrap64 (Int.tdiv (wrap64 ((wrap64 ((wrap64 (1000000000 - t105)) + t104)) - 1)) t104))))).bind fun bt107 => (some (bt107.2.2.2, true, bt107.1, bt107.2.1, wrap64 (bt107.2.2.1 - 1000000000), bt107.2.2.2)))) else (some (t106, true, t103, t104, wrap64 (t105 - 1000000000), t106))) = some (r1, r2, r3, r4, r5, r6) := H
 have A3 := aM A30; clear A30
 by_cases c4 : (wrap64 (1000000000 - t105)) > 0
 ·rw [if_pos c4] at H
  have c4b0 : decide (0 < (wrap64 (1000000000 - t105))) = true := dT c4
  clear c4
  by_cases c5 : t104 = 0
  ·rw [if_pos c5] at H
   have c5b0 : (t104 == 0) = true := beq_iff_eq.mpr c5
   have c5b1 : (t104 != 0) = false := bne_eq_false_iff_eq.mpr c5
   clear c5
   simp only [Option.some.injEq, Prod.mk.injEq] at H
   obtain ⟨rfl, rfl, rfl, rfl, rfl, rfl⟩ := H
   go_enter Try.func11, Try.ntmps11
   go_wp2_with (first | ((with_reducible refine gC (f := 14) rfl ?_); refine gL (some 9) rfl rfl Try.func14 (by kernel_rfl) rfl #[.pointer (some ⟨g, 0, none⟩), .int .i64 a1] rfl (by (try simp only [mA, mC, mN]); first | done | rfl | (simp only [lD, lT]; rfl)) ?_; (with_reducible refine (load_vessel_fill.calls k g s0_0 s0_1 s0_2 s0_3 a1 t103 t104 t105 t106 w0 _ ?side1 ?side2 A3.out).mono ?_); (case side1 => repeat (first | (with_reducible first | exact HI0.out | apply IsS35.alloc | apply IsS35.drewN | apply IsS35.drew | apply IsS35.set_0 | apply IsS35.set_1 | apply IsS35.set_2 | apply IsS35.set_3) | exact HI0.out)); (case side2 => repeat (first | (with_reducible first | exact HB.out | apply bA | apply pN | apply bD | refine bE ?_ (IsS35.ge HI0.out)) | exact HB.out)); rintro e w6 ⟨rfl, hi, hb, hk⟩; refine ⟨_, rfl, ?_⟩; have n0_ := aM (KeepBut.trans (by repeat (first | (with_reducible first | exact HK.out | apply KeepBut.set_ | apply keep_drewN | apply keep_drew | apply keep_alloc) | exact HK.out)) hk (.inl rfl)); have n1_ := aM (hb); have n2_ := aM (hi); clear HK HB HI0; have HK := n0_; have HB := n1_; have HI0 := n2_; clear n0_ n1_ n2_; (try clear hb); (try clear hb2); (try clear hk); (try clear hi); obtain ⟨HGz7, hgz7⟩ := HI0.out; have hcz7_0 := cellS35_0 HGz7; have hcz7_1 := cellS35_1 HGz7; have hcz7_2 := cellS35_2 HGz7; have hcz7_3 := cellS35_3 HGz7; have hfz7_0 := blk_frozen HGz7 0; have hfz7_1 := blk_frozen HGz7 1; have hfz7_2 := blk_frozen HGz7 2; have hfz7_3 := blk_frozen HGz7 3; clear HGz7 hgz7))
   go_ret2
   exact ⟨by first | rfl | (simp [errW_none, errW_some] <;> rfl) | (simp [*, errW_none, errW_some] <;> rfl), by repeat (first | (with_reducible first | exact HI0.out | apply IsS35.alloc | apply IsS35.drewN | apply IsS35.drew | apply IsS35.set_0 | apply IsS35.set_1 | apply IsS35.set_2 | apply IsS35.set_3) | exact HI0.out), by repeat (first | (with_reducible first | exact HB.out | apply bA | apply pN | apply bD | refine bE ?_ (IsS35.ge HI0.out)) | exact HB.out), by repeat (first | (with_reducible first | exact HK.out | apply KeepBut.set_ | apply keep_drewN | apply keep_drew | apply keep_alloc) | exact HK.out)⟩
  ·rw [if_neg c5] at H
   have c5b0 : (t104 == 0) = false := beq_eq_false_iff_ne.mpr c5
   have c5b1 : (t104 != 0) = true := bne_iff_ne.mpr c5
   replace H := oB H
   obtain ⟨⟨t107, t108, t109, t110⟩, A80, H⟩ := H
   replace H : (some (t110, true, t107, t108, wrap64 (t109 - 1000000000), t110)) = some (r1, r2, r3, r4, r5, r6) := H
   have A8 := aM A80; clear A80
   simp only [Option.some.injEq, Prod.mk.injEq] at H
   obtain ⟨rfl, rfl, rfl, rfl, rfl, rfl⟩ := H
   go_enter Try.func11, Try.ntmps11
   try go_wp2_with (first | ((with_reducible refine gC (f := 14) rfl ?_); refine gL (some 9) rfl rfl Try.func14 (by kernel_rfl) rfl #[.pointer (some ⟨g, 0, none⟩), .int .i64 a1] rfl (by (try simp only [mA, mC, mN]); first | done | rfl | (simp only [lD, lT]; rfl)) ?_; (with_reducible refine (load_vessel_fill.calls k g s0_0 s0_1 s0_2 s0_3 a1 t103 t104 t105 t106 w0 _ ?side1 ?side2 A3.out).mono ?_); (case side1 => repeat (first | (with_reducible first | exact HI0.out | apply IsS35.alloc | apply IsS35.drewN | apply IsS35.drew | apply IsS35.set_0 | apply IsS35.set_1 | apply IsS35.set_2 | apply IsS35.set_3) | exact HI0.out)); (case side2 => repeat (first | (with_reducible first | exact HB.out | apply bA | apply pN | apply bD | refine bE ?_ (IsS35.ge HI0.out)) | exact HB.out)); rintro e w9 ⟨rfl, hi, hb, hk⟩; refine ⟨_, rfl, ?_⟩; have n0_ := aM (KeepBut.trans (by repeat (first | (with_reducible first | exact HK.out | apply KeepBut.set_ | apply keep_drewN | apply keep_drew | apply keep_alloc) | exact HK.out)) hk (.inl rfl)); have n1_ := aM (hb); have n2_ := aM (hi); clear HK HB HI0; have HK := n0_; have HB := n1_; have HI0 := n2_; clear n0_ n1_ n2_; (try clear hb); (try clear hb2); (try clear hk); (try clear hi); obtain ⟨HGz10, hgz10⟩ := HI0.out; have hcz10_0 := cellS35_0 HGz10; have hcz10_1 := cellS35_1 HGz10; have hcz10_2 := cellS35_2 HGz10; have hcz10_3 := cellS35_3 HGz10; have hfz10_0 := blk_frozen HGz10 0; have hfz10_1 := blk_frozen HGz10 1; have hfz10_2 := blk_frozen HGz10 2; have hfz10_3 := blk_frozen HGz10 3; clear HGz10 hgz10))
   have n0_ := aM (IsS35.drew HI0.out); have n1_ := aM (keep_drew HK.out); have n2_ := aM (bD HB.out); clear HI0 HK HB; have HI0 := n0_; have HK := n1_; have HB := n2_; clear n0_ n1_ n2_
   refine start_ (n := 19) (S := fun w' => w'.cell? ⟨g, 0, none⟩ = some (.int .i64 t103) ∧ w'.cell? ⟨g, 1, none⟩ = some (.int .i64 t104) ∧ w'.cell? ⟨g, 2, none⟩ = some (.int .i64 t105) ∧ w'.cell? ⟨g, 3, none⟩ = some (.int .i64 t106)) (ds := [18]) #[false, false, false, false, false, false, false, false, false, false, false, false, false, false, false, false, false, false, false] (by kernel_rfl) rfl rfl ⟨(kC HI0.out.1 0).trans rfl, (kC HI0.out.1 1).trans rfl, (kC HI0.out.1 2).trans rfl, (kC HI0.out.1 3).trans rfl⟩ (fun hHeld => ?_); refine with_tabW load_vessel_take.tab6 load_vessel_take.bits6 (fun HT_ HW_ => ?_)
   generalize w9.drew = w11 at HI0 HK HB hHeld ⊢
   refine pure_ (i := 0) (N := some 22) (v := ?_) (a' := ?_) #[true, false, false, false, false, false, false, false, false, false, false, false, false, false, false, false, false, false, false] rfl rfl (any_of HT_.out (by kernel_rfl)) (fun _ _ _ h => h) (Or.inl ⟨by rfl, ?_⟩) ?_ ?_
   rotate_left
   ·intro w'
    go_simp
    with_reducible rfl
   rotate_left
   ·simp only [Act.put, sI, sZ, sS, i64_w]
    rfl
   refine pure_ (i := 1) (N := some 23) (v := ?_) (a' := ?_) #[true, true, false, false, false, false, false, false, false, false, false, false, false, false, false, false, false, false, false] rfl rfl (any_of HT_.out (by kernel_rfl)) (fun _ _ _ h => h) (Or.inl ⟨by rfl, ?_⟩) ?_ ?_
   rotate_left
   ·intro w'
    go_simp
    with_reducible rfl
   rotate_left
   ·simp only [Act.put, sI, sZ, sS, i64_w]
    rfl
   refine pure_ (i := 2) (N := some 24) (v := ?_) (a' := ?_) #[true, true, true, false, false, false, false, false, false, false, false, false, false, false, false, false, false, false, false] rfl rfl (any_of HT_.out (by kernel_rfl)) (fun _ _ _ h => h) (Or.inl ⟨by rfl, ?_⟩) ?_ ?_
   rotate_left
   ·intro w'
    go_simp
    with_reducible rfl
   rotate_left
   ·simp only [Act.put, sI, sZ, sS, i64_w]
    rfl
   refine pure_ (i := 3) (N := some 25) (v := ?_) (a' := ?_) #[true, true, true, true, false, false, false, false, false, false, false, false, false, false, false, false, false, false, false] rfl rfl (any_of HT_.out (by kernel_rfl)) (fun _ _ _ h => h) (Or.inl ⟨by rfl, ?_⟩) ?_ ?_
   rotate_left
   ·intro w'
    go_simp
    with_reducible rfl
   rotate_left
   ·simp only [Act.put, sI, sZ, sS, i64_w]
    rfl
   refine pure_ (i := 5) (N := some 27) (v := ?_) (a' := ?_) #[true, true, true, true, false, true, false, false, false, false, false, false, false, false, false, false, false, false, false] rfl rfl (any_of HT_.out (by kernel_rfl)) (fun _ _ _ h => h) (Or.inl ⟨by rfl, ?_⟩) ?_ ?_
   rotate_left
   ·intro w'
    go_simp
    with_reducible rfl
   rotate_left
   ·simp only [Act.put, sI, sZ, sS, i64_w]
    rfl
   refine pure_ (i := 6) (N := some 28) (v := ?_) (a' := ?_) #[true, true, true, true, false, true, true, false, false, false, false, false, false, false, false, false, false, false, false] rfl rfl (any_of HT_.out (by kernel_rfl)) (fun _ _ _ h => h) (Or.inl ⟨by rfl, ?_⟩) ?_ ?_
   rotate_left
   ·intro w'
    go_simp
    with_reducible rfl
   rotate_left
   ·simp only [Act.put, sI, sZ, sS, i64_w]
    rfl
   refine pure_ (i := 7) (N := some 29) (v := ?_) (a' := ?_) #[true, true, true, true, false, true, true, true, false, false, false, false, false, false, false, false, false, false, false] rfl rfl (any_of HT_.out (by kernel_rfl)) (fun _ _ _ h => h) (Or.inl ⟨by rfl, ?_⟩) ?_ ?_
   rotate_left
   ·intro w'
    go_simp
    with_reducible rfl
   rotate_left
   ·simp only [Act.put, sI, sZ, sS, i64_w]
    rfl
   refine pure_ (i := 8) (N := some 30) (v := ?_) (a' := ?_) #[true, true, true, true, false, true, true, true, true, false, false, false, false, false, false, false, false, false, false] rfl rfl (any_of HT_.out (by kernel_rfl)) (fun _ _ _ h => h) (Or.inl ⟨by rfl, ?_⟩) ?_ ?_
   rotate_left
   ·intro w'
    go_simp
    with_reducible rfl
   rotate_left
   ·simp only [Act.put, sI, sZ, sS, i64_w]
    rfl
   refine pure_ (i := 12) (N := some 34) (v := ?_) (a' := ?_) #[true, true, true, true, false, true, true, true, true, false, false, false, true, false, false, false, false, false, false] rfl rfl (any_of HT_.out (by kernel_rfl)) (fun _ _ _ h => h) (Or.inl ⟨by rfl, ?_⟩) ?_ ?_
   rotate_left
   ·intro w'
    go_simp
    with_reducible rfl
   rotate_left
   ·simp only [Act.put, sI, sZ, sS, i64_w]
    rfl
   refine pure_ (i := 13) (N := some 35) (v := ?_) (a' := ?_) #[true, true, true, true, false, true, true, true, true, false, false, false, true, true, false, false, false, false, false] rfl rfl (any_of HT_.out (by kernel_rfl)) (fun _ _ _ h => h) (Or.inl ⟨by rfl, ?_⟩) ?_ ?_
   rotate_left
   ·intro w'
    go_simp
    with_reducible rfl
   rotate_left
   ·simp only [Act.put, sI, sZ, sS, i64_w]
    rfl
   refine pure_ (i := 14) (N := some 36) (v := ?_) (a' := ?_) #[true, true, true, true, false, true, true, true, true, false, false, false, true, true, true, false, false, false, false] rfl rfl (any_of HT_.out (by kernel_rfl)) (fun _ _ _ h => h) (Or.inl ⟨by rfl, ?_⟩) ?_ ?_
   rotate_left
   ·intro w'
    go_simp
    with_reducible rfl
   rotate_left
   ·simp only [Act.put, sI, sZ, sS, i64_w]
    rfl
   refine take_ (i := 4) (N := some 26) (v := ?_) (a' := ?_) #[true, true, true, true, true, true, true, true, true, false, false, false, true, true, true, false, false, false, false] rfl rfl (take_ofW HT_.out HW_.out (by kernel_rfl)) (fun _ _ _ h => h) (Or.inl ⟨by rfl, ?_⟩) hHeld ?_ ?_
   rotate_left
   ·rintro w' ⟨s0, s1, s2, s3⟩
    go_simp
    with_reducible rfl
   rotate_left
   ·simp only [Act.put, sI, sZ, sS, i64_w]
    rfl
   refine take_ (i := 9) (N := some 31) (v := ?_) (a' := ?_) #[true, true, true, true, true, true, true, true, true, true, false, false, true, true, true, false, false, false, false] rfl rfl (take_ofW HT_.out HW_.out (by kernel_rfl)) (fun _ _ _ h => h) (Or.inl ⟨by rfl, ?_⟩) hHeld ?_ ?_
   rotate_left
   ·rintro w' ⟨s0, s1, s2, s3⟩
    go_simp
    with_reducible rfl
   rotate_left
   ·simp only [Act.put, sI, sZ, sS, i64_w]
    rfl
   refine pure_ (i := 10) (N := some 32) (v := ?_) (a' := ?_) #[true, true, true, true, true, true, true, true, true, true, true, false, true, true, true, false, false, false, false] rfl rfl (any_of HT_.out (by kernel_rfl)) (fun _ _ _ h => h) (Or.inl ⟨by rfl, ?_⟩) ?_ ?_
   rotate_left
   ·intro w'
    go_simp
    with_reducible rfl
   rotate_left
   ·simp only [Act.put, sI, sZ, sS, i64_w]
    rfl
   refine pure_ (i := 11) (N := some 33) (v := ?_) (a' := ?_) #[true, true, true, true, true, true, true, true, true, true, true, true, true, true, true, false, false, false, false] rfl rfl (any_of HT_.out (by kernel_rfl)) (fun _ _ _ h => h) (Or.inl ⟨by rfl, ?_⟩) ?_ ?_
   rotate_left
   ·intro w'
    go_simp
    with_reducible rfl
   rotate_left
   ·simp only [Act.put, sI, sZ, sS, i64_w]
    rfl
   refine take_ (i := 15) (N := some 37) (v := ?_) (a' := ?_) #[true, true, true, true, true, true, true, true, true, true, true, true, true, true, true, true, false, false, false] rfl rfl (take_ofW HT_.out HW_.out (by kernel_rfl)) (fun _ _ _ h => h) (Or.inl ⟨by rfl, ?_⟩) hHeld ?_ ?_
   rotate_left
   ·rintro w' ⟨s0, s1, s2, s3⟩
    go_simp
    with_reducible rfl
   rotate_left
   ·simp only [Act.put, sI, sZ, sS, i64_w]
    rfl
   refine pure_ (i := 16) (N := some 38) (v := ?_) (a' := ?_) #[true, true, true, true, true, true, true, true, true, true, true, true, true, true, true, true, true, false, false] rfl rfl (any_of HT_.out (by kernel_rfl)) (fun _ _ _ h => h) (Or.inl ⟨by rfl, ?_⟩) ?_ ?_
   rotate_left
   ·intro w'
    go_simp
    with_reducible rfl
   rotate_left
   ·simp only [Act.put, sI, sZ, sS, i64_w]
    rfl
   refine pure_ (i := 17) (N := some 39) (v := ?_) (a' := ?_) #[true, true, true, true, true, true, true, true, true, true, true, true, true, true, true, true, true, true, false] rfl rfl (any_of HT_.out (by kernel_rfl)) (fun _ _ _ h => h) (Or.inl ⟨by rfl, ?_⟩) ?_ ?_
   rotate_left
   ·intro w'
    go_simp
    with_reducible rfl
   rotate_left
   ·simp only [Act.put, sI, sZ, sS, i64_w]
    rfl
   refine last_ (i := 18) (N := some 40) #[true, true, true, true, true, true, true, true, true, true, true, true, true, true, true, true, true, true, true] rfl rfl (one_of HT_.out (by kernel_rfl)) (by decide) (fun K hK => ?_)
   refine goes_ Try.func14 (by kernel_rfl) rfl #[.pointer (some ⟨g, 0, none⟩), .int .i64 (wrap64 (t106 + (wrap64 (Int.tdiv (wrap64 ((wrap64 ((wrap64 (1000000000 - t105)) + t104)) - 1)) t104))))] (by rfl) rfl rfl (by (try simp only [mA, mC, mN]); first | done | rfl | (simp only [lD, lT]; rfl)) ?_
   with_reducible refine (load_vessel_fill.calls k g t103 t104 t105 t106 (wrap64 (t106 + (wrap64 (Int.tdiv (wrap64 ((wrap64 ((wrap64 (1000000000 - t105)) + t104)) - 1)) t104)))) t107 t108 t109 t110 w0 _ ?side1 ?side2 A8.out).mono ?_
   (case side1 => repeat (first | (with_reducible first | exact HI0.out | apply IsS35.alloc | apply IsS35.drewN | apply IsS35.drew | apply IsS35.set_0 | apply IsS35.set_1 | apply IsS35.set_2 | apply IsS35.set_3) | exact HI0.out))
   (case side2 => repeat (first | (with_reducible first | exact HB.out | apply bA | apply pN | apply bD | refine bE ?_ (IsS35.ge HI0.out)) | exact HB.out))
   rintro e w12 ⟨rfl, hi, hb, hk⟩
   refine ⟨_, rfl, ?_⟩
   have n0_ := aM (KeepBut.trans (by repeat (first | (with_reducible first | exact HK.out | apply KeepBut.set_ | apply keep_drewN | apply keep_drew | apply keep_alloc) | exact HK.out)) hk (.inl rfl)); have n1_ := aM (hb); have n2_ := aM (hi); clear HK HB HI0; have HK := n0_; have HB := n1_; have HI0 := n2_; clear n0_ n1_ n2_
   (try clear hb)
   (try clear hb2)
   (try clear hk)
   (try clear hi)
   refine hK.out _ _ ?_
   clear hK K
   refine norm_ (a' := ?_) ?_ ?_
   rotate_left
   ·show Act.put _ (some 40) _ = _
    simp only [Act.put, sI, sZ, sS, i64_w]
    rfl
   refine done_ (done_of HT_.out (by kernel_rfl)) ?_
   obtain ⟨HGz13, hgz13⟩ := HI0.out
   have hcz13_0 := cellS35_0 HGz13
   have hcz13_1 := cellS35_1 HGz13
   have hcz13_2 := cellS35_2 HGz13
   have hcz13_3 := cellS35_3 HGz13
   have hfz13_0 := blk_frozen HGz13 0
   have hfz13_1 := blk_frozen HGz13 1
   have hfz13_2 := blk_frozen HGz13 2
   have hfz13_3 := blk_frozen HGz13 3
   clear HGz13 hgz13
   try go_wp2
   go_ret2
   exact ⟨by first | rfl | (simp [errW_none, errW_some] <;> rfl) | (simp [*, errW_none, errW_some] <;> rfl), by repeat (first | (with_reducible first | exact HI0.out | apply IsS35.alloc | apply IsS35.drewN | apply IsS35.drew | apply IsS35.set_0 | apply IsS35.set_1 | apply IsS35.set_2 | apply IsS35.set_3) | exact HI0.out), by repeat (first | (with_reducible first | exact HB.out | apply bA | apply pN | apply bD | refine bE ?_ (IsS35.ge HI0.out)) | exact HB.out), by repeat (first | (with_reducible first | exact HK.out | apply KeepBut.set_ | apply keep_drewN | apply keep_drew | apply keep_alloc) | exact HK.out)⟩
 ·rw [if_neg c4] at H
  have c4b0 : decide (0 < (wrap64 (1000000000 - t105))) = false := decide_eq_false c4
  clear c4
  simp only [Option.some.injEq, Prod.mk.injEq] at H
  obtain ⟨rfl, rfl, rfl, rfl, rfl, rfl⟩ := H
  go_enter Try.func11, Try.ntmps11
  go_wp2_with (first | ((with_reducible refine gC (f := 14) rfl ?_); refine gL (some 9) rfl rfl Try.func14 (by kernel_rfl) rfl #[.pointer (some ⟨g, 0, none⟩), .int .i64 a1] rfl (by (try simp only [mA, mC, mN]); first | done | rfl | (simp only [lD, lT]; rfl)) ?_; (with_reducible refine (load_vessel_fill.calls k g s0_0 s0_1 s0_2 s0_3 a1 t103 t104 t105 t106 w0 _ ?side1 ?side2 A3.out).mono ?_); (case side1 => repeat (first | (with_reducible first | exact HI0.out | apply IsS35.alloc | apply IsS35.drewN | apply IsS35.drew | apply IsS35.set_0 | apply IsS35.set_1 | apply IsS35.set_2 | apply IsS35.set_3) | exact HI0.out)); (case side2 => repeat (first | (with_reducible first | exact HB.out | apply bA | apply pN | apply bD | refine bE ?_ (IsS35.ge HI0.out)) | exact HB.out)); rintro e w14 ⟨rfl, hi, hb, hk⟩; refine ⟨_, rfl, ?_⟩; have n0_ := aM (KeepBut.trans (by repeat (first | (with_reducible first | exact HK.out | apply KeepBut.set_ | apply keep_drewN | apply keep_drew | apply keep_alloc) | exact HK.out)) hk (.inl rfl)); have n1_ := aM (hb); have n2_ := aM (hi); clear HK HB HI0; have HK := n0_; have HB := n1_; have HI0 := n2_; clear n0_ n1_ n2_; (try clear hb); (try clear hb2); (try clear hk); (try clear hi); obtain ⟨HGz15, hgz15⟩ := HI0.out; have hcz15_0 := cellS35_0 HGz15; have hcz15_1 := cellS35_1 HGz15; have hcz15_2 := cellS35_2 HGz15; have hcz15_3 := cellS35_3 HGz15; have hfz15_0 := blk_frozen HGz15 0; have hfz15_1 := blk_frozen HGz15 1; have hfz15_2 := blk_frozen HGz15 2; have hfz15_3 := blk_frozen HGz15 3; clear HGz15 hgz15))
  go_ret2
  exact ⟨by first | rfl | (simp [errW_none, errW_some] <;> rfl) | (simp [*, errW_none, errW_some] <;> rfl), by repeat (first | (with_reducible first | exact HI0.out | apply IsS35.alloc | apply IsS35.drewN | apply IsS35.drew | apply IsS35.set_0 | apply IsS35.set_1 | apply IsS35.set_2 | apply IsS35.set_3) | exact HI0.out), by repeat (first | (with_reducible first | exact HB.out | apply bA | apply pN | apply bD | refine bE ?_ (IsS35.ge HI0.out)) | exact HB.out), by repeat (first | (with_reducible first | exact HK.out | apply KeepBut.set_ | apply keep_drewN | apply keep_drew | apply keep_alloc) | exact HK.out)⟩
mutual
def load_Admit.j0 : Nat → List Int → Int → Int → Bool → Option (List Int × Int)
 | 0, _, _, _, _ => none
 | k + 1, x0, x1, x2, x34 => if x34 = true then (some (([] : List Int), 9)) else (if 0 ≤ (x0.length : Int) then (if ((x0.length : Int) : Int).toNat ≤ 35184372088832 then (load_Admit.l0 k false (([] : List Int)) x0 (x0.length : Int) 0 (wrap64 (x2 * 1000000000)) x1 (wrap64 (x2 * 1000000000)) 0) else (none)) else (none))
def load_Admit.l0 : Nat → Bool → List Int → List Int → Int → Int → Int → Int → Int → Int → Option (List Int × Int)
 | 0, _, _, _, _, _, _, _, _, _ => none
 | k + 1, x10, x11, x45, x46, x47, x113000, x113001, x113002, x113003 => if x47 < x46 then (if 0 ≤ x47 then (if x47 < (x45.length : Int) then ((load_vessel_take.f k x113000 x113001 x113002 x113003 (rd x45 x47)).bind fun bt117 => (if bt117.2.1 = true then (if x10 = true then (if x11.length < 17592186044416 then (load_Admit.l0 k true (x11 ++ [bt117.1]) x45 x46 (wrap64 (x47 + 1)) bt117.2.2.1 bt117.2.2.2.1 bt117.2.2.2.2.1 bt117.2.2.2.2.2) else (none)) else (if x11.length < 17592186044416 then (load_Admit.l0 k (decide (bt117.1 > 1000000000000)) (x11 ++ [bt117.1]) x45 x46 (wrap64 (x47 + 1)) bt117.2.2.1 bt117.2.2.2.1 bt117.2.2.2.2.1 bt117.2.2.2.2.2) else (none))) else (some (([] : List Int), 4)))) else (none)) else (none)) else (if x10 = true then (some (([] : List Int), 3)) else (some (x11, 0)))
end
def load_Admit.f (k : Nat) (l0 : List Int) (a1 : Int) (a2 : Int) : Option (List Int × Int) := (load_checkTimes.f k l0).bind fun t111 => (if t111 = 0 then (if a1 < 0 then (load_Admit.j0 k l0 a1 a2 true) else (if a1 > 1000000000 then (load_Admit.j0 k l0 a1 a2 true) else (if a2 < 1 then (load_Admit.j0 k l0 a1 a2 true) else (load_Admit.j0 k l0 a1 a2 (decide (a2 > 1000000)))))) else (some (([] : List Int), t111)))
theorem load_Admit.calls (k : Nat) (A0 : Option Addr) (c0 : Nat) (l0 : List Int) (a1 : Int) (a2 : Int) (r1 : List Int) (r2 : Int) (w : World) (hr0 : Kd.C (Kd.int .i64) w A0 l0.length l0) (hc0 : l0.length ≤ c0) (h : load_Admit.f k l0 a1 a2 = some (r1, r2)) :
  Calls Try.prog 4 #[.slice A0 l0.length c0, .int .i64 a1, .int .i64 a2] w fun e w' => ∃ v0_ : Value, e = .returned (.tuple #[v0_, .int .i64 r2]) ∧ Kd.R (Kd.int .i64) 3 w' w.heap.size (fun _ => True) v0_ r1 ∧ Below w.heap.size w w' := by
 have hu35 := Try.underlying35
 have HR0 := aM hr0
 have HC0 := aM hc0
 clear hr0 hc0
 have HB := aM (Below.refl w.heap.size w)
 have H : ((load_checkTimes.f k l0).bind fun t111 => (if t111 = 0 then (if a1 < 0 then (load_Admit.j0 k l0 a1 a2 true) else (if a1 > 1000000000 then (load_Admit.j0 k l0 a1 a2 true) else (if a2 < 1 then (load_Admit.j0 k l0 a1 a2 true) else (load_Admit.j0 k l0 a1 a2 (decide (a2 > 1000000)))))) else (some (([] : List Int), t111)))) = some (r1, r2) := h
 clear h
 replace H := oB H
 obtain ⟨t111, A40, H⟩ := H
 replace H : (if t111 = 0 then (if a1 < 0 then (load_Admit.j0 k l0 a1 a2 true) else (if a1 > 1000000000 then (load_Admit.j0 k l0 a1 a2 true) else (if a2 < 1 then (load_Admit.j0 k l0 a1 a2 true) else (load_Admit.j0 k l0 a1 a2 (decide (a2 > 1000000)))))) else (some (([] : List Int), t111))) = some (r1, r2) := H
 have A4 := aM A40; clear A40
 by_cases c5 : t111 = 0
 ·rw [if_pos c5] at H
  have c5b0 : (t111 == 0) = true := beq_iff_eq.mpr c5
  have c5b1 : (t111 != 0) = false := bne_eq_false_iff_eq.mpr c5
  clear c5; have HC6 := aM H; clear H
  go_enter Try.func4, Try.ntmps4
  go_upto_region 4 with (first | ((with_reducible refine gC (f := 10) rfl ?_); refine gL (some 17) rfl rfl Try.func10 (by kernel_rfl) rfl #[.slice A0 l0.length c0] rfl (by (try simp only [mA, mC, mN]); first | done | rfl | (simp only [lD, lT]; rfl)) ?_; (with_reducible refine (load_checkTimes.calls k _ _ l0 t111 _ ?side1 ?side2 A4.out).mono ?_); (case side1 => repeat (first | exact HR0.out | (with_reducible refine cA ?_ _) | (with_reducible refine cN ?_ _) | (with_reducible refine cD ?_))); (case side2 => exact HC0.out); rintro e w' ⟨rfl, ⟨nd, rfl⟩⟩; refine ⟨_, rfl, ?_⟩))
  (try simp only [Act.put, sI, sZ, sS])
  go_cut [34] (fun v34 wc => ∃ (kq : Nat) (x34_5 : Bool), v34 = .bool x34_5 ∧ Aside0 (load_Admit.j0 kq l0 a1 a2 x34_5 = some (r1, r2)) ∧ Aside0 (kq ≤ k) ∧ Aside0 (Below w.heap.size w wc))
  case first =>
   have H := HC6.out
   clear HC6
   by_cases c7 : a1 < 0
   ·rw [if_pos c7] at H
    have c7b0 : decide (a1 < 0) = true := dT c7
    clear c7
    (first | rw [c7b0] | (simp only [i64_w, i32_w]; rw [c7b0]) | skip)
    have H' := aM H; clear H
    go_wp2
    go_meet
    case rel => exact ⟨_, (true), (by first | rfl | (simp; done) | (simp [*]; done)), H', ⟨by first | omega | exact Nat.le_refl _⟩, ⟨by apply_rules [HB.out, bA, pN, bD]⟩⟩
   ·rw [if_neg c7] at H
    have c7b0 : decide (a1 < 0) = false := decide_eq_false c7
    clear c7
    (first | rw [c7b0] | (simp only [i64_w, i32_w]; rw [c7b0]) | skip)
    by_cases c8 : a1 > 1000000000
    ·rw [if_pos c8] at H
     have c8b0 : decide (1000000000 < a1) = true := dT c8
     clear c8; have H' := aM H; clear H
     go_wp2
     go_meet
     case rel => exact ⟨_, (true), (by first | rfl | (simp; done) | (simp [*]; done)), H', ⟨by first | omega | exact Nat.le_refl _⟩, ⟨by apply_rules [HB.out, bA, pN, bD]⟩⟩
    ·rw [if_neg c8] at H
     have c8b0 : decide (1000000000 < a1) = false := decide_eq_false c8
     clear c8
     by_cases c9 : a2 < 1
     ·rw [if_pos c9] at H
      have c9b0 : decide (a2 < 1) = true := dT c9
      clear c9; have H' := aM H; clear H
      go_wp2
      go_meet
      case rel => exact ⟨_, (true), (by first | rfl | (simp; done) | (simp [*]; done)), H', ⟨by first | omega | exact Nat.le_refl _⟩, ⟨by apply_rules [HB.out, bA, pN, bD]⟩⟩
     ·rw [if_neg c9] at H
      have c9b0 : decide (a2 < 1) = false := decide_eq_false c9
      clear c9; have H' := aM H; clear H
      go_wp2
      go_meet
      case rel => exact ⟨_, (decide (a2 > 1000000)), (by first | rfl | (simp; done) | (simp [*]; done)), H', ⟨by first | omega | exact Nat.le_refl _⟩, ⟨by apply_rules [HB.out, bA, pN, bD]⟩⟩
  case rest =>
   clear HC6
   try clear c1
   try clear p2
   try clear c4
   try clear c5
   try clear c5b0
   try clear c5b1
   try clear c7
   try clear c7b0
   try clear c8
   try clear c8b0
   try clear c9
   try clear c9b0
   obtain ⟨kq, x34_5, rfl, HA, HJ5, HB⟩ := hcut
   cases kq with
   | zero => exact absurd HA.out (by simp [load_Admit.j0])
   | succ kj5 =>
    have H := HA.out
    clear HA
    simp only [load_Admit.j0] at H
    by_cases c10 : x34_5 = true
    ·subst c10
     have H1 : (some (([] : List Int), 9)) = some (r1, r2) := by rw [if_pos rfl] at H; exact H
     clear H
     have H := H1
     clear H1
     simp only [Option.some.injEq, Prod.mk.injEq] at H
     obtain ⟨rfl, rfl⟩ := H
     go_wp2
     go_ret2
     exact ⟨_, by first | rfl | (simp [errW_none, errW_some] <;> rfl) | (simp [*, errW_none, errW_some] <;> rfl), by first | exact Kd.R_nil _ _ _ _ _ | exact Kd.N_nil _ _ _ _ _ | exact Kd.V_nil _ _ _ _ _ | exact Kd.Q_nil _ _ _ _ _ | exact Kd.S_nil _ _ _ _ _, by apply_rules [HB.out, bA, pN, bD]⟩
    ·replace c10 := Bool.eq_false_iff.mpr c10
     subst c10
     have H1 : (if 0 ≤ (l0.length : Int) then (if ((l0.length : Int) : Int).toNat ≤ 35184372088832 then (load_Admit.l0 kj5 false (([] : List Int)) l0 (l0.length : Int) 0 (wrap64 (a2 * 1000000000)) a1 (wrap64 (a2 * 1000000000)) 0) else (none)) else (none)) = some (r1, r2) := by rw [if_neg (show ¬ (false = true) by decide)] at H; exact H
     clear H
     have H := H1
     clear H1
     by_cases c11 : 0 ≤ (l0.length : Int)
     rotate_left
     ·rw [if_neg c11] at H; cases H
     rw [if_pos c11] at H
     have c11b0 := eq_true c11
     have c11b1 : decide (0 ≤ (l0.length : Int)) = true := dT c11
     clear c11
     by_cases c12 : ((l0.length : Int) : Int).toNat ≤ 35184372088832
     rotate_left
     ·rw [if_neg c12] at H; cases H
     rw [if_pos c12] at H
     have c12b0 := eq_true c12
     have c12b1 : decide (((l0.length : Int) : Int).toNat ≤ 35184372088832) = true := dT c12
     clear c12
     obtain ⟨y113, hy113⟩ : ∃ y_ : List Int, y_ = (([] : List Int)) := ⟨_, rfl⟩
     replace H : (load_Admit.l0 kj5 false y113 l0 (l0.length : Int) 0 (wrap64 (a2 * 1000000000)) a1 (wrap64 (a2 * 1000000000)) 0) = some (r1, r2) := by first | (rw [hy113]; exact H) | exact H
     have Ny113 := aM hy113
     clear hy113; have H' := aM H; clear H
     go_wp2_with (first | ((with_reducible refine gate_dst (N := 41) rfl ?_); refine box_event ?hg (N := 41) ?hd (cs := #[.int .i64 (wrap64 (a2 * 1000000000)), .int .i64 a1, .int .i64 (wrap64 (a2 * 1000000000)), .int .i64 0]) (t := 35) ?hr ?_; (case hd => rfl); (case hg => rfl); (case hr => first | (go_simp; done) | (go_simp; rfl)); intro gb112 hg w13 hbox hb; have n0_ := aM (bS (by apply_rules [HB.out, bA, pN, bD]) hb); have n1_ := aM (hbox); have n2_ := aM ((by rw [hg]; exact (bZ (by apply_rules [HB.out, bA, pN, bD])) : w.heap.size ≤ gb112)); have n3_ := aM ((by rw [hg]; exact (bZ (by apply_rules [HB.out, bA, pN, bD])) : w.heap.size ≤ gb112)); clear HB; have HB := n0_; have BK112 := n1_; have GW112 := n2_; have GE112 := n3_; clear n0_ n1_ n2_ n3_ hb hbox hg; have HI112 := aM (show IsS35 w w13 gb112 (wrap64 (a2 * 1000000000)) a1 (wrap64 (a2 * 1000000000)) 0 from ⟨BK112.out, GE112.out⟩); clear BK112) | ((with_reducible refine gate_dst (N := 44) rfl ?_); refine R_make_cap (Kd.int .i64) _ 3 rfl (N := 44) rfl 22 _ _ rfl (l0.length : Int) rfl rfl Try.underlying22 (.int .i64 0) 8 info3 (by omega) (ok := fun _ => True) trivial (oD (by first | (with_reducible assumption) | assumption)) (Nat.le_trans (Nat.mul_le_mul_right _ (oD (by first | (with_reducible assumption) | assumption) : (l0.length : Int).toNat ≤ 35184372088832)) (by omega)) (Below.refl _ _) (Nat.le_refl _) ?_; intro v114 w14 ho15 hb hg_ hnew_; clear hg_ hnew_; (first | rw [← Ny113.out] at ho15 | (simp only [Int.reduceToNat] at ho15; rw [← Ny113.out] at ho15)); have n0_ := aM (Kd.R_lower ho15 (bZ (by repeat (first | (with_reducible first | exact HB.out | apply bA | apply pN | apply bD | refine bE ?_ (IsS35.ge HI112.out)) | exact HB.out)))); have n1_ := aM (IsS35.below (by repeat (first | (with_reducible first | exact HI112.out | apply IsS35.alloc | apply IsS35.drewN | apply IsS35.drew | apply IsS35.set_0 | apply IsS35.set_1 | apply IsS35.set_2 | apply IsS35.set_3) | exact HI112.out)) hb); have n2_ := aM (bS (by repeat (first | (with_reducible first | exact HB.out | apply bA | apply pN | apply bD | refine bE ?_ (IsS35.ge HI112.out)) | exact HB.out)) hb); clear HI112 HB; have HO115 := n0_; have HI112 := n1_; have HB := n2_; clear n0_ n1_ n2_ hb ho15))
     go_loopg [10, 11, 47] kj5 (fun kq v10 v11 v47 w' => ∃ (x10_2 : Bool) (x11_2 : List Int) (x47_2 : Int) (x113000_2 : Int) (x113001_2 : Int) (x113002_2 : Int) (x113003_2 : Int), v10 = .bool x10_2 ∧ v47 = .int .i64 x47_2 ∧ Aside0 (load_Admit.l0 kq x10_2 x11_2 l0 (l0.length : Int) x47_2 x113000_2 x113001_2 x113002_2 x113003_2 = some (r1, r2)) ∧ Aside0 (kq ≤ kj5) ∧ Aside0 (Kd.R (Kd.int .i64) 3 w' w.heap.size (fun _ => True) v11 x11_2) ∧ Aside0 (IsS35 w w' gb112 x113000_2 x113001_2 x113002_2 x113003_2) ∧ Aside0 (Below w.heap.size w w'))
     case atStart => exact ⟨(false), (y113), (0), (wrap64 (a2 * 1000000000)), (a1), (wrap64 (a2 * 1000000000)), (0), (by first | rfl | (simp; done) | (simp [*]; done)), (by first | rfl | (simp; done) | (simp [*]; done)), H', ⟨Nat.le_refl _⟩, ⟨by apply_rules [HO115.out, rN, rD]⟩, ⟨by repeat (first | (with_reducible first | exact HI112.out | apply IsS35.alloc | apply IsS35.drewN | apply IsS35.drew | apply IsS35.set_0 | apply IsS35.set_1 | apply IsS35.set_2 | apply IsS35.set_3) | exact HI112.out)⟩, ⟨by repeat (first | (with_reducible first | exact HB.out | apply bA | apply pN | apply bD | refine bE ?_ (IsS35.ge HI112.out)) | exact HB.out)⟩⟩
     case round =>
      clear H'
      try clear c1
      try clear p2
      try clear c4
      try clear c5
      try clear c5b0
      try clear c5b1
      try clear p6
      try clear c7
      try clear c7b0
      try clear c8
      try clear c8b0
      try clear c9
      try clear c9b0
      try clear c10
      try clear c11
      try clear c11b0
      try clear c11b1
      try clear c12
      try clear c12b0
      try clear c12b1
      try clear p2
      obtain ⟨x10_2, x11_2, x47_2, x113000_2, x113001_2, x113002_2, x113003_2, rfl, rfl, HA, HK2, HO_11, HI112, HB⟩ := hrel
      cases gk with
      | zero => exact absurd HA.out (by simp [load_Admit.l0])
      | succ k2 =>
       have H := HA.out
       clear HA
       simp only [load_Admit.l0] at H
       by_cases c16 : x47_2 < (l0.length : Int)
       ·rw [if_pos c16] at H
        have c16b0 : decide (x47_2 < (l0.length : Int)) = true := dT c16
        clear c16
        by_cases c17 : 0 ≤ x47_2
        rotate_left
        ·rw [if_neg c17] at H; cases H
        rw [if_pos c17] at H
        have c17b0 : decide (0 ≤ x47_2) = true := dT c17
        clear c17
        by_cases c18 : x47_2 < (l0.length : Int)
        rotate_left
        ·rw [if_neg c18] at H; cases H
        rw [if_pos c18] at H
        have c18b0 : decide (x47_2 < (l0.length : Int)) = true := dT c18
        clear c18
        replace H := oB H
        obtain ⟨⟨t117, t118, t119, t120, t121, t122⟩, A190, H⟩ := H
        replace H : (if t118 = true then (if x10_2 = true then (if x11_2.length < 17592186044416 then (load_Admit.l0 k2 true (x11_2 ++ [t117]) l0 (l0.length : Int) (wrap64 (x47_2 + 1)) t119 t120 t121 t122) else (none)) else (if x11_2.length < 17592186044416 then (load_Admit.l0 k2 (decide (t117 > 1000000000000)) (x11_2 ++ [t117]) l0 (l0.length : Int) (wrap64 (x47_2 + 1)) t119 t120 t121 t122) else (none))) else (some (([] : List Int), 4))) = some (r1, r2) := H
        have A19 := aM A190; clear A190
        by_cases c20 : t118 = true
        ·subst c20
         have H1 : (if x10_2 = true then (if x11_2.length < 17592186044416 then (load_Admit.l0 k2 true (x11_2 ++ [t117]) l0 (l0.length : Int) (wrap64 (x47_2 + 1)) t119 t120 t121 t122) else (none)) else (if x11_2.length < 17592186044416 then (load_Admit.l0 k2 (decide (t117 > 1000000000000)) (x11_2 ++ [t117]) l0 (l0.length : Int) (wrap64 (x47_2 + 1)) t119 t120 t121 t122) else (none))) = some (r1, r2) := by rw [if_pos rfl] at H; exact H
         clear H
         have H := H1
         clear H1
         by_cases c21 : x10_2 = true
         ·subst c21
          have H1 : (if x11_2.length < 17592186044416 then (load_Admit.l0 k2 true (x11_2 ++ [t117]) l0 (l0.length : Int) (wrap64 (x47_2 + 1)) t119 t120 t121 t122) else (none)) = some (r1, r2) := by rw [if_pos rfl] at H; exact H
          clear H
          have H := H1
          clear H1
          by_cases c22 : x11_2.length < 17592186044416
          rotate_left
          ·rw [if_neg c22] at H; cases H
          rw [if_pos c22] at H
          have LMc22 := aM c22
          clear c22
          obtain ⟨y123, hy123⟩ : ∃ y_ : List Int, y_ = (x11_2 ++ [t117]) := ⟨_, rfl⟩
          replace H : (load_Admit.l0 k2 true y123 l0 (l0.length : Int) (wrap64 (x47_2 + 1)) t119 t120 t121 t122) = some (r1, r2) := by first | (rw [hy123]; exact H) | exact H
          have Ny123 := aM hy123
          clear hy123; have H' := aM H; clear H
          have p116 : 0 ≤ (x47_2 : Int) := oD (by first | (with_reducible assumption) | assumption)
          have q116 : x47_2 < (l0.length : Int) := oD (by first | (with_reducible assumption) | assumption)
          obtain ⟨ad116, e116, hx116_0⟩ := Kd.at_int HR0.out x47_2 p116 q116
          cases e116
          replace hx116_0 := (HB.out.cell (wL w _ hx116_0)).trans hx116_0
          replace p116 := eq_true p116
          replace q116 := eq_true q116
          go_wp2_with (first | ((with_reducible refine gC (f := 11) rfl ?_); refine gL (some 54) rfl rfl Try.func11 (by kernel_rfl) rfl #[.pointer (some ⟨gb112, 0, none⟩), .int .i64 (rd l0 x47_2)] rfl (by (try simp only [mA, mC, mN]); first | done | rfl | (simp only [lD, lT]; rfl)) ?_; (with_reducible refine (load_vessel_take.calls k2 gb112 x113000_2 x113001_2 x113002_2 x113003_2 (rd l0 x47_2) t117 true t119 t120 t121 t122 w _ ?side1 ?side2 A19.out).mono ?_); (case side1 => repeat (first | (with_reducible first | exact HI112.out | apply IsS35.alloc | apply IsS35.drewN | apply IsS35.drew | apply IsS35.set_0 | apply IsS35.set_1 | apply IsS35.set_2 | apply IsS35.set_3) | exact HI112.out)); (case side2 => repeat (first | (with_reducible first | exact HB.out | apply bA | apply pN | apply bD | refine bE ?_ (IsS35.ge HI112.out)) | exact HB.out)); rintro e w23 ⟨rfl, hi, hb, hk⟩; refine ⟨_, rfl, ?_⟩; have n0_ := aM (Kd.R_mono (Kd.R_keep (IsS35.apart (show IsS35 w _ gb112 x113000_2 x113001_2 x113002_2 x113003_2 from by repeat (first | (with_reducible first | exact HI112.out | apply IsS35.alloc | apply IsS35.drewN | apply IsS35.drew | apply IsS35.set_0 | apply IsS35.set_1 | apply IsS35.set_2 | apply IsS35.set_3) | exact HI112.out)) (by apply_rules [HO_11.out, rN, rD]) (by decide)) hk (fun _ h => h.2)) (fun _ h => h.1)); have n1_ := aM (hb); have n2_ := aM (hi); clear HO_11 HB HI112; have HO_11 := n0_; have HB := n1_; have HI112 := n2_; clear n0_ n1_ n2_; (try clear hb); (try clear hb2); (try clear hk); (try clear hi)) | ((with_reducible refine gate_builtin (b := .append) (xs := #[.tmp 64, .tmp 66]) rfl ?_); at_builtin; refine Kd.R_append (Kd.int .i64) (w0 := w) w.heap.size rfl (.tmp 64) (.tmp 66) 22 3 (.int .i64 0) 8 rfl Try.underlying22 info3 rfl (by decide) (by omega) u11 x11_2 t117 [.int .i64 t117] (fun _ => True) (fun _ => False) rfl rfl ?aP (fun _ hk => hk.elim) ?aF ?aO ?aB ?aS ?aL ?_; (case aP => exact rfl); (case aB => exact (by repeat (first | (with_reducible first | exact HB.out | apply bA | apply pN | apply bD | refine bE ?_ (IsS35.ge HI112.out)) | exact HB.out))); (case aF => exact (fun _ _ => trivial)); (case aO => exact (by apply_rules [HO_11.out, rN, rD])); (case aS => exact (bZ (by repeat (first | (with_reducible first | exact HB.out | apply bA | apply pN | apply bD | refine bE ?_ (IsS35.ge HI112.out)) | exact HB.out)))); (case aL => have := LMc22.out; omega); intro v124 w24 ho hb hg hat; rw [← Ny123.out] at ho; have n0_ := aM (IsS35.grown (by repeat (first | (with_reducible first | exact HI112.out | apply IsS35.alloc | apply IsS35.drewN | apply IsS35.drew | apply IsS35.set_0 | apply IsS35.set_1 | apply IsS35.set_2 | apply IsS35.set_3) | exact HI112.out)) hg (IsS35.own_ne HI112.out HO_11.out (by decide))); have n1_ := aM (hb); have n2_ := aM (ho); clear HI112 HB HO_11; have HI112 := n0_; have HB := n1_; have HO125 := n2_; clear n0_ n1_ n2_ ho hb hg hat))
          go_roundg k2
          case measure => have := HJ5.out; have := HK2.out; omega
          case rel => exact ⟨(true), (y123), (wrap64 (x47_2 + 1)), (t119), (t120), (t121), (t122), (by first | rfl | (simp; done) | (simp [*]; done)), (by first | rfl | (simp; done) | (simp [*]; done)), H', ⟨by have := HJ5.out; have := HK2.out; omega⟩, ⟨by apply_rules [HO125.out, rN, rD]⟩, ⟨by repeat (first | (with_reducible first | exact HI112.out | apply IsS35.alloc | apply IsS35.drewN | apply IsS35.drew | apply IsS35.set_0 | apply IsS35.set_1 | apply IsS35.set_2 | apply IsS35.set_3) | exact HI112.out)⟩, ⟨by repeat (first | (with_reducible first | exact HB.out | apply bA | apply pN | apply bD | refine bE ?_ (IsS35.ge HI112.out)) | exact HB.out)⟩⟩
         ·replace c21 := Bool.eq_false_iff.mpr c21
          subst c21
          have H1 : (if x11_2.length < 17592186044416 then (load_Admit.l0 k2 (decide (t117 > 1000000000000)) (x11_2 ++ [t117]) l0 (l0.length : Int) (wrap64 (x47_2 + 1)) t119 t120 t121 t122) else (none)) = some (r1, r2) := by rw [if_neg (show ¬ (false = true) by decide)] at H; exact H
          clear H
          have H := H1
          clear H1
          by_cases c25 : x11_2.length < 17592186044416
          rotate_left
          ·rw [if_neg c25] at H; cases H
          rw [if_pos c25] at H
          have LMc25 := aM c25
          clear c25
          obtain ⟨y126, hy126⟩ : ∃ y_ : List Int, y_ = (x11_2 ++ [t117]) := ⟨_, rfl⟩
          replace H : (load_Admit.l0 k2 (decide (t117 > 1000000000000)) y126 l0 (l0.length : Int) (wrap64 (x47_2 + 1)) t119 t120 t121 t122) = some (r1, r2) := by first | (rw [hy126]; exact H) | exact H
          have Ny126 := aM hy126
          clear hy126; have H' := aM H; clear H
          have p116 : 0 ≤ (x47_2 : Int) := oD (by first | (with_reducible assumption) | assumption)
          have q116 : x47_2 < (l0.length : Int) := oD (by first | (with_reducible assumption) | assumption)
          obtain ⟨ad116, e116, hx116_0⟩ := Kd.at_int HR0.out x47_2 p116 q116
          cases e116
          replace hx116_0 := (HB.out.cell (wL w _ hx116_0)).trans hx116_0
          replace p116 := eq_true p116
          replace q116 := eq_true q116
          go_wp2_with (first | ((with_reducible refine gC (f := 11) rfl ?_); refine gL (some 54) rfl rfl Try.func11 (by kernel_rfl) rfl #[.pointer (some ⟨gb112, 0, none⟩), .int .i64 (rd l0 x47_2)] rfl (by (try simp only [mA, mC, mN]); first | done | rfl | (simp only [lD, lT]; rfl)) ?_; (with_reducible refine (load_vessel_take.calls k2 gb112 x113000_2 x113001_2 x113002_2 x113003_2 (rd l0 x47_2) t117 true t119 t120 t121 t122 w _ ?side1 ?side2 A19.out).mono ?_); (case side1 => repeat (first | (with_reducible first | exact HI112.out | apply IsS35.alloc | apply IsS35.drewN | apply IsS35.drew | apply IsS35.set_0 | apply IsS35.set_1 | apply IsS35.set_2 | apply IsS35.set_3) | exact HI112.out)); (case side2 => repeat (first | (with_reducible first | exact HB.out | apply bA | apply pN | apply bD | refine bE ?_ (IsS35.ge HI112.out)) | exact HB.out)); rintro e w26 ⟨rfl, hi, hb, hk⟩; refine ⟨_, rfl, ?_⟩; have n0_ := aM (Kd.R_mono (Kd.R_keep (IsS35.apart (show IsS35 w _ gb112 x113000_2 x113001_2 x113002_2 x113003_2 from by repeat (first | (with_reducible first | exact HI112.out | apply IsS35.alloc | apply IsS35.drewN | apply IsS35.drew | apply IsS35.set_0 | apply IsS35.set_1 | apply IsS35.set_2 | apply IsS35.set_3) | exact HI112.out)) (by apply_rules [HO_11.out, rN, rD]) (by decide)) hk (fun _ h => h.2)) (fun _ h => h.1)); have n1_ := aM (hb); have n2_ := aM (hi); clear HO_11 HB HI112; have HO_11 := n0_; have HB := n1_; have HI112 := n2_; clear n0_ n1_ n2_; (try clear hb); (try clear hb2); (try clear hk); (try clear hi)) | ((with_reducible refine gate_builtin (b := .append) (xs := #[.tmp 64, .tmp 66]) rfl ?_); at_builtin; refine Kd.R_append (Kd.int .i64) (w0 := w) w.heap.size rfl (.tmp 64) (.tmp 66) 22 3 (.int .i64 0) 8 rfl Try.underlying22 info3 rfl (by decide) (by omega) u11 x11_2 t117 [.int .i64 t117] (fun _ => True) (fun _ => False) rfl rfl ?aP (fun _ hk => hk.elim) ?aF ?aO ?aB ?aS ?aL ?_; (case aP => exact rfl); (case aB => exact (by repeat (first | (with_reducible first | exact HB.out | apply bA | apply pN | apply bD | refine bE ?_ (IsS35.ge HI112.out)) | exact HB.out))); (case aF => exact (fun _ _ => trivial)); (case aO => exact (by apply_rules [HO_11.out, rN, rD])); (case aS => exact (bZ (by repeat (first | (with_reducible first | exact HB.out | apply bA | apply pN | apply bD | refine bE ?_ (IsS35.ge HI112.out)) | exact HB.out)))); (case aL => have := LMc25.out; omega); intro v127 w27 ho hb hg hat; rw [← Ny126.out] at ho; have n0_ := aM (IsS35.grown (by repeat (first | (with_reducible first | exact HI112.out | apply IsS35.alloc | apply IsS35.drewN | apply IsS35.drew | apply IsS35.set_0 | apply IsS35.set_1 | apply IsS35.set_2 | apply IsS35.set_3) | exact HI112.out)) hg (IsS35.own_ne HI112.out HO_11.out (by decide))); have n1_ := aM (hb); have n2_ := aM (ho); clear HI112 HB HO_11; have HI112 := n0_; have HB := n1_; have HO128 := n2_; clear n0_ n1_ n2_ ho hb hg hat))
          go_roundg k2
          case measure => have := HJ5.out; have := HK2.out; omega
          case rel => exact ⟨(decide (t117 > 1000000000000)), (y126), (wrap64 (x47_2 + 1)), (t119), (t120), (t121), (t122), (by first | rfl | (simp; done) | (simp [*]; done)), (by first | rfl | (simp; done) | (simp [*]; done)), H', ⟨by have := HJ5.out; have := HK2.out; omega⟩, ⟨by apply_rules [HO128.out, rN, rD]⟩, ⟨by repeat (first | (with_reducible first | exact HI112.out | apply IsS35.alloc | apply IsS35.drewN | apply IsS35.drew | apply IsS35.set_0 | apply IsS35.set_1 | apply IsS35.set_2 | apply IsS35.set_3) | exact HI112.out)⟩, ⟨by repeat (first | (with_reducible first | exact HB.out | apply bA | apply pN | apply bD | refine bE ?_ (IsS35.ge HI112.out)) | exact HB.out)⟩⟩
        ·replace c20 := Bool.eq_false_iff.mpr c20
         subst c20
         have H1 : (some (([] : List Int), 4)) = some (r1, r2) := by rw [if_neg (show ¬ (false = true) by decide)] at H; exact H
         clear H
         have H := H1
         clear H1
         simp only [Option.some.injEq, Prod.mk.injEq] at H
         obtain ⟨rfl, rfl⟩ := H
         have p116 : 0 ≤ (x47_2 : Int) := oD (by first | (with_reducible assumption) | assumption)
         have q116 : x47_2 < (l0.length : Int) := oD (by first | (with_reducible assumption) | assumption)
         obtain ⟨ad116, e116, hx116_0⟩ := Kd.at_int HR0.out x47_2 p116 q116
         cases e116
         replace hx116_0 := (HB.out.cell (wL w _ hx116_0)).trans hx116_0
         replace p116 := eq_true p116
         replace q116 := eq_true q116
         go_wp2_with (first | ((with_reducible refine gC (f := 11) rfl ?_); refine gL (some 54) rfl rfl Try.func11 (by kernel_rfl) rfl #[.pointer (some ⟨gb112, 0, none⟩), .int .i64 (rd l0 x47_2)] rfl (by (try simp only [mA, mC, mN]); first | done | rfl | (simp only [lD, lT]; rfl)) ?_; (with_reducible refine (load_vessel_take.calls k2 gb112 x113000_2 x113001_2 x113002_2 x113003_2 (rd l0 x47_2) t117 false t119 t120 t121 t122 w _ ?side1 ?side2 A19.out).mono ?_); (case side1 => repeat (first | (with_reducible first | exact HI112.out | apply IsS35.alloc | apply IsS35.drewN | apply IsS35.drew | apply IsS35.set_0 | apply IsS35.set_1 | apply IsS35.set_2 | apply IsS35.set_3) | exact HI112.out)); (case side2 => repeat (first | (with_reducible first | exact HB.out | apply bA | apply pN | apply bD | refine bE ?_ (IsS35.ge HI112.out)) | exact HB.out)); rintro e w28 ⟨rfl, hi, hb, hk⟩; refine ⟨_, rfl, ?_⟩; have n0_ := aM (Kd.R_mono (Kd.R_keep (IsS35.apart (show IsS35 w _ gb112 x113000_2 x113001_2 x113002_2 x113003_2 from by repeat (first | (with_reducible first | exact HI112.out | apply IsS35.alloc | apply IsS35.drewN | apply IsS35.drew | apply IsS35.set_0 | apply IsS35.set_1 | apply IsS35.set_2 | apply IsS35.set_3) | exact HI112.out)) (by apply_rules [HO_11.out, rN, rD]) (by decide)) hk (fun _ h => h.2)) (fun _ h => h.1)); have n1_ := aM (hb); have n2_ := aM (hi); clear HO_11 HB HI112; have HO_11 := n0_; have HB := n1_; have HI112 := n2_; clear n0_ n1_ n2_; (try clear hb); (try clear hb2); (try clear hk); (try clear hi)))
         go_ret2
         exact ⟨_, by first | rfl | (simp [errW_none, errW_some] <;> rfl) | (simp [*, errW_none, errW_some] <;> rfl), by first | exact Kd.R_nil _ _ _ _ _ | exact Kd.N_nil _ _ _ _ _ | exact Kd.V_nil _ _ _ _ _ | exact Kd.Q_nil _ _ _ _ _ | exact Kd.S_nil _ _ _ _ _, by repeat (first | (with_reducible first | exact HB.out | apply bA | apply pN | apply bD | refine bE ?_ (IsS35.ge HI112.out)) | exact HB.out)⟩
       ·rw [if_neg c16] at H
        have c16b0 : decide (x47_2 < (l0.length : Int)) = false := decide_eq_false c16
        clear c16
        by_cases c29 : x10_2 = true
        ·subst c29
         have H1 : (some (([] : List Int), 3)) = some (r1, r2) := by rw [if_pos rfl] at H; exact H
         clear H
         have H := H1
         clear H1
         simp only [Option.some.injEq, Prod.mk.injEq] at H
         obtain ⟨rfl, rfl⟩ := H
         go_wp2
         go_ret2
         exact ⟨_, by first | rfl | (simp [errW_none, errW_some] <;> rfl) | (simp [*, errW_none, errW_some] <;> rfl), by first | exact Kd.R_nil _ _ _ _ _ | exact Kd.N_nil _ _ _ _ _ | exact Kd.V_nil _ _ _ _ _ | exact Kd.Q_nil _ _ _ _ _ | exact Kd.S_nil _ _ _ _ _, by repeat (first | (with_reducible first | exact HB.out | apply bA | apply pN | apply bD | refine bE ?_ (IsS35.ge HI112.out)) | exact HB.out)⟩
        ·replace c29 := Bool.eq_false_iff.mpr c29
         subst c29
         have H1 : (some (x11_2, 0)) = some (r1, r2) := by rw [if_neg (show ¬ (false = true) by decide)] at H; exact H
         clear H
         have H := H1
         clear H1
         simp only [Option.some.injEq, Prod.mk.injEq] at H
         obtain ⟨rfl, rfl⟩ := H
         go_wp2
         go_ret2
         exact ⟨_, by first | rfl | (simp [errW_none, errW_some] <;> rfl) | (simp [*, errW_none, errW_some] <;> rfl), by (with_reducible repeat (first | apply rN | apply rD)); exact HO_11.out, by repeat (first | (with_reducible first | exact HB.out | apply bA | apply pN | apply bD | refine bE ?_ (IsS35.ge HI112.out)) | exact HB.out)⟩
 ·rw [if_neg c5] at H
  have c5b0 : (t111 == 0) = false := beq_eq_false_iff_ne.mpr c5
  have c5b1 : (t111 != 0) = true := bne_iff_ne.mpr c5
  simp only [Option.some.injEq, Prod.mk.injEq] at H
  obtain ⟨rfl, rfl⟩ := H
  go_enter Try.func4, Try.ntmps4
  go_wp2_with (first | ((with_reducible refine gC (f := 10) rfl ?_); refine gL (some 17) rfl rfl Try.func10 (by kernel_rfl) rfl #[.slice A0 l0.length c0] rfl (by (try simp only [mA, mC, mN]); first | done | rfl | (simp only [lD, lT]; rfl)) ?_; (with_reducible refine (load_checkTimes.calls k _ _ l0 t111 _ ?side1 ?side2 A4.out).mono ?_); (case side1 => repeat (first | exact HR0.out | (with_reducible refine cA ?_ _) | (with_reducible refine cN ?_ _) | (with_reducible refine cD ?_))); (case side2 => exact HC0.out); rintro e w' ⟨rfl, ⟨nd, rfl⟩⟩; refine ⟨_, rfl, ?_⟩))
  go_ret2
  exact ⟨_, by first | rfl | (simp [errW_none, errW_some] <;> rfl) | (simp [*, errW_none, errW_some] <;> rfl), by first | exact Kd.R_nil _ _ _ _ _ | exact Kd.N_nil _ _ _ _ _ | exact Kd.V_nil _ _ _ _ _ | exact Kd.Q_nil _ _ _ _ _ | exact Kd.S_nil _ _ _ _ _, by apply_rules [HB.out, bA, pN, bD]⟩
def load_length.l0 : Nat → Int → List (S40) → Int → Int → Option (Int)
 | 0, _, _, _, _ => none
 | k + 1, x3, x6, x7, x8 => if x8 < x7 then (if 0 ≤ x8 then (if x8 < (x6.length : Int) then (load_length.l0 k (wrap64 (x3 + ((rd_T40 x6 x8).f0))) x6 x7 (wrap64 (x8 + 1))) else (none)) else (none)) else (some x3)
def load_length.f (k : Nat) (l0 : List (S40)) : Option (Int) := load_length.l0 k 0 l0 (l0.length : Int) 0
theorem load_length.mono_l : ∀ k, (∀ y0 y1 y2 y3, LeO (load_length.l0 k y0 y1 y2 y3) (load_length.l0 (k + 1) y0 y1 y2 y3))
 | 0 => fun _ _ _ _ r h => by simp [load_length.l0] at h
 | k + 1 => by
  have ih0 := load_length.mono_l k
  ·intro y0 y1 y2 y3
   unfold load_length.l0
   repeat' first
   | (with_reducible exact ih0 _ _ _ _)
   | (with_reducible exact LeO.refl _)
   | (with_reducible exact LeO.none _)
   | (with_reducible refine LeO.ite ?_ ?_)
   | (with_reducible refine LeO.bind ?_ (fun _ => ?_))
theorem load_length.mono : ∀ a0 k, LeO (load_length.f k a0) (load_length.f (k + 1) a0) := by
 intro a0 k
 have ih0 := load_length.mono_l k
 unfold load_length.f
 repeat' first
   | (with_reducible exact ih0 _ _ _ _)
   | (with_reducible exact LeO.refl _)
   | (with_reducible exact LeO.none _)
   | (with_reducible refine LeO.ite ?_ ?_)
   | (with_reducible refine LeO.bind ?_ (fun _ => ?_))
theorem load_length.calls (k : Nat) (A0 : Option Addr) (c0 : Nat) (l0 : List (S40)) (r : Int) (w : World) (hr0 : Kd.C k40 w A0 l0.length l0) (hc0 : l0.length ≤ c0) (h : load_length.f k l0 = some r) :
  Calls Try.prog 19 #[.slice A0 l0.length c0] w fun e w' => e = .returned (.int .i64 r) ∧ Below w.heap.size w w' := by
 have hu40 := Try.underlying40
 have HR0 := aM hr0
 have HC0 := aM hc0
 clear hr0 hc0
 have HB := aM (Below.refl w.heap.size w)
 have H : (load_length.l0 k 0 l0 (l0.length : Int) 0) = some r := h
 clear h; have H' := aM H; clear H
 go_enter Try.func19, Try.ntmps19
 go_wp2
 go_loopg [3, 8] k (fun kq v3 v8 w' => ∃ (x3_1 : Int) (x8_1 : Int), v3 = .int .i64 x3_1 ∧ v8 = .int .i64 x8_1 ∧ Aside0 (load_length.l0 kq x3_1 l0 (l0.length : Int) x8_1 = some r) ∧ Aside0 (kq ≤ k) ∧ Aside0 (Below w.heap.size w w'))
 case atStart => exact ⟨(0), (0), (by first | rfl | (simp; done) | (simp [*]; done)), (by first | rfl | (simp; done) | (simp [*]; done)), H', ⟨Nat.le_refl _⟩, ⟨by apply_rules [HB.out, bA, pN, bD]⟩⟩
 case round =>
  clear H'
  try clear c1
  obtain ⟨x3_1, x8_1, rfl, rfl, HA, HK1, HB⟩ := hrel
  cases gk with
  | zero => exact absurd HA.out (by simp [load_length.l0])
  | succ k1 =>
   have H := HA.out
   clear HA
   simp only [load_length.l0] at H
   by_cases c2 : x8_1 < (l0.length : Int)
   ·rw [if_pos c2] at H
    have c2b0 : decide (x8_1 < (l0.length : Int)) = true := dT c2
    clear c2
    by_cases c3 : 0 ≤ x8_1
    rotate_left
    ·rw [if_neg c3] at H; cases H
    rw [if_pos c3] at H
    have c3b0 : decide (0 ≤ x8_1) = true := dT c3
    clear c3
    by_cases c4 : x8_1 < (l0.length : Int)
    rotate_left
    ·rw [if_neg c4] at H; cases H
    rw [if_pos c4] at H
    have c4b0 : decide (x8_1 < (l0.length : Int)) = true := dT c4
    clear c4; have H' := aM H; clear H
    have p129 : 0 ≤ (x8_1 : Int) := oD (by first | (with_reducible assumption) | assumption)
    have q129 : x8_1 < (l0.length : Int) := oD (by first | (with_reducible assumption) | assumption)
    obtain ⟨ad129, e129, hx129_0, hx129_1, hx129_2⟩ := at_T40 HR0.out x8_1 p129 q129
    cases e129
    replace hx129_0 := (HB.out.cell (wL w _ hx129_0)).trans hx129_0
    replace hx129_1 := (HB.out.cell (wL w _ hx129_1)).trans hx129_1
    replace hx129_2 := (HB.out.cell (wL w _ hx129_2)).trans hx129_2
    replace p129 := eq_true p129
    replace q129 := eq_true q129
    go_wp2_with (first | ((with_reducible refine gate_dst (N := 5) rfl ?_); refine box_event ?hg (N := 5) ?hd (cs := #[.int .i64 0, .int .i64 0, .int .i64 0]) (t := 40) ?hr ?_; (case hd => rfl); (case hg => rfl); (case hr => first | (go_simp; done) | (go_simp; rfl)); intro gb130 hg w5 hbox hb; have n0_ := aM (bS (by apply_rules [HB.out, bA, pN, bD]) hb); have n1_ := aM (hbox); have n2_ := aM ((by rw [hg]; exact (bZ (by apply_rules [HB.out, bA, pN, bD])) : w.heap.size ≤ gb130)); have n3_ := aM ((by rw [hg]; exact (bZ (by apply_rules [HB.out, bA, pN, bD])) : w.heap.size ≤ gb130)); clear HB; have HB := n0_; have BK130 := n1_; have GW130 := n2_; have GE130 := n3_; clear n0_ n1_ n2_ n3_ hb hbox hg; have hcz6_0 : w5.cell? ⟨gb130, 0, none⟩ = some (.int .i64 0) := (kC BK130.out 0).trans rfl; have hcz6_1 : w5.cell? ⟨gb130, 1, none⟩ = some (.int .i64 0) := (kC BK130.out 1).trans rfl; have hcz6_2 : w5.cell? ⟨gb130, 2, none⟩ = some (.int .i64 0) := (kC BK130.out 2).trans rfl; have hfz6_0 := blk_frozen BK130.out 0; have hfz6_1 := blk_frozen BK130.out 1; have hfz6_2 := blk_frozen BK130.out 2))
    go_roundg k1
    case measure => have := HK1.out; omega
    case rel => exact ⟨(wrap64 (x3_1 + ((rd_T40 l0 x8_1).f0))), (wrap64 (x8_1 + 1)), (by first | rfl | (simp; done) | (simp [*]; done)), (by first | rfl | (simp; done) | (simp [*]; done)), H', ⟨by have := HK1.out; omega⟩, ⟨by repeat (first | (with_reducible first | exact HB.out | apply bA | apply pN | apply bD | refine bE ?_ GE130.out) | exact HB.out)⟩⟩
   ·rw [if_neg c2] at H
    have c2b0 : decide (x8_1 < (l0.length : Int)) = false := decide_eq_false c2
    clear c2
    obtain rfl := Option.some.inj H
    go_wp2
    go_ret
    exact ⟨by first | rfl | (simp [errW_none, errW_some] <;> rfl) | (simp [*, errW_none, errW_some] <;> rfl), by apply_rules [HB.out, bA, pN, bD]⟩
end Go.Proofs.Ytaoekkikpceccaa.QLoadAdmitKeepsTheLimit
