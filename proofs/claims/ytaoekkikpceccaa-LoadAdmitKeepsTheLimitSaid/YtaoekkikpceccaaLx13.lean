/- Lean functions that answer as Go functions of this seat do, each with its proof. Condition: the Lean function answers 'some'. -/
import Derived.Test.YtaoekkikpceccaaLx0
namespace Go.Proofs.Ytaoekkikpceccaa.QLoadAdmitKeepsTheLimit
open Go.RowKit Go.Proofs.YtaoekkikpceccaaW.PrintWords Go.Proofs.YtaoekkikpceccaaW.PrintLast Go.Proofs.YtaoekkikpceccaaW.PrintMore
attribute [local go_sem] max2_int min2_int max_two min_two
set_option linter.unusedVariables false
set_option maxHeartbeats 8000000
set_option maxRecDepth 100000
set_option linter.unusedSimpArgs false
def nat_give.l0 : Nat → List Int → List Int → Int → Int → Int → Int → Option (Bool × List Int)
 | 0, _, _, _, _, _, _ => none
 | k + 1, x0, x1, x2, x7, x10, x11 => if x11 < x10 then (if 0 ≤ (wrap64 (x11 + x2)) then (if (wrap64 (x11 + x2)) < (x0.length : Int) then (if 0 ≤ x11 then (if x11 < (x1.length : Int) then (if 0 ≤ (rd x0 (wrap64 (x11 + x2))) then (if 0 ≤ (rd x1 x11) then (if 0 ≤ x7 then (if x7 ≤ 1 then (nat_give.l0 k (x0.set ((wrap64 (x11 + x2)) : Int).toNat (((rd x0 (wrap64 (x11 + x2))) + (rd x1 x11) + x7) % 18446744073709551616)) x1 x2 (((rd x0 (wrap64 (x11 + x2))) + (rd x1 x11) + x7) / 18446744073709551616) x10 (wrap64 (x11 + 1))) else (none)) else (none)) else (none)) else (none)) else (none)) else (none)) else (none)) else (none)) else (if 0 ≤ (wrap64 (x2 + (x1.length : Int))) then (if (wrap64 (x2 + (x1.length : Int))) < (x0.length : Int) then (if 0 ≤ (rd x0 (wrap64 (x2 + (x1.length : Int)))) then (if 0 ≤ x7 then (if x7 ≤ 1 then (some (decide ((((rd x0 (wrap64 (x2 + (x1.length : Int)))) + x7) / 18446744073709551616) > 0), (x0.set ((wrap64 (x2 + (x1.length : Int))) : Int).toNat (((rd x0 (wrap64 (x2 + (x1.length : Int)))) + x7) % 18446744073709551616)))) else (none)) else (none)) else (none)) else (none)) else (none))
def nat_give.f (k : Nat) (l0 : List Int) (l1 : List Int) (a2 : Int) : Option (Bool × List Int) := nat_give.l0 k l0 l1 a2 0 (l1.length : Int) 0
theorem nat_give.mono_l : ∀ k, (∀ y0 y1 y2 y3 y4 y5, LeO (nat_give.l0 k y0 y1 y2 y3 y4 y5) (nat_give.l0 (k + 1) y0 y1 y2 y3 y4 y5))
 | 0 => fun _ _ _ _ _ _ r h => by simp [nat_give.l0] at h
 | k + 1 => by
  have ih0 := nat_give.mono_l k
  ·intro y0 y1 y2 y3 y4 y5
   unfold nat_give.l0
   repeat' first
   | (with_reducible exact ih0 _ _ _ _ _ _)
   | (with_reducible exact LeO.refl _)
   | (with_reducible exact LeO.none _)
   | (with_reducible refine LeO.ite ?_ ?_)
   | (with_reducible refine LeO.bind ?_ (fun _ => ?_))
theorem nat_give.mono : ∀ a0 a1 a2 k, LeO (nat_give.f k a0 a1 a2) (nat_give.f (k + 1) a0 a1 a2) := by
 intro a0 a1 a2 k
 have ih0 := nat_give.mono_l k
 unfold nat_give.f
 repeat' first
   | (with_reducible exact ih0 _ _ _ _ _ _)
   | (with_reducible exact LeO.refl _)
   | (with_reducible exact LeO.none _)
   | (with_reducible refine LeO.ite ?_ ?_)
   | (with_reducible refine LeO.bind ?_ (fun _ => ?_))
def nat_give.T5 : Bool × List (List Nat × List Nat) := (true, [([], []), ([], []), ([], []), ([1, 2], [1, 2]), ([], []), ([], []), ([], []), ([5, 6], [5, 6]), ([4, 7], [4, 7]), ([8], [8]), ([], []), ([], []), ([10, 11], [10, 11]), ([12], [12]), ([], []), ([9, 13, 14], [9, 13, 14]), ([15], [15]), ([16], [16]), ([16], [16]), ([0, 3, 0, 1, 2, 3, 4, 5, 6, 7, 8, 9, 10, 11, 12, 13, 14, 15, 16, 17], [0, 3]), ([19, 17, 15, 0, 1, 2, 3, 4, 5, 6, 7, 8, 9, 10, 11, 12, 13, 14, 15, 16, 17], [17, 19]), ([18, 20, 0, 1, 2, 3, 4, 5, 6, 7, 8, 9, 10, 11, 12, 13, 14, 15, 16, 17, 18, 19, 20], [14, 18])])
def nat_give.B5 : List Nat := [0, 0, 0, 6, 0, 0, 0, 96, 240, 496, 0, 0, 3072, 7168, 0, 32752, 65520, 131056, 131056, 262143, 786431, 2097151]
theorem nat_give.tab5 : rtab .any (opsOf Try.f38 5) = nat_give.T5 := by kernel_rfl
theorem nat_give.bits5 : waitsOk nat_give.T5.2 nat_give.B5 = true := by kernel_rfl
theorem nat_give.calls (k : Nat) (P0_ : Nat → Prop) (u9000_ : Value) (l0 : List Int) (A1 : Option Addr) (c1 : Nat) (l1 : List Int) (a2 : Int) (r1 : Bool) (r2 : List Int) (w0 w : World) (hB : Below w0.heap.size w0 w) (ho0 : Kd.R (Kd.int .u64) 65 w w0.heap.size P0_ u9000_ l0) (hr1 : ∀ W_, Kept w W_ (fun k_ => P0_ k_) → Kd.C (Kd.int .u64) W_ A1 l1.length l1) (hc1 : l1.length ≤ c1) (h : nat_give.f k l0 l1 a2 = some (r1, r2)) :
  Calls Try.prog 38 #[u9000_, .slice A1 l1.length c1, .int .i64 a2] w fun e w' => e = .returned (.bool r1) ∧ Kd.R (Kd.int .u64) 65 w' w0.heap.size (fun k_ => (P0_ k_ ∨ w.heap.size ≤ k_)) u9000_ r2 ∧ Below w0.heap.size w0 w' ∧ Kept w w' (fun k_ => P0_ k_) := by
 have HO0 := aM (show Kd.R (Kd.int .u64) 65 w w0.heap.size (fun k_ => (P0_ k_ ∨ w.heap.size ≤ k_)) u9000_ l0 from Kd.R_mono ho0 (fun k_ hk => (.inl hk)))
 have HR1 := aM hr1
 have HC1 := aM hc1
 clear hr1 hc1
 have HK := aM (Kept.refl w (fun k_ => P0_ k_))
 have HW0 := aM hB.size
 have HB := aM hB
 clear hB
 have H : (nat_give.l0 k l0 l1 a2 0 (l1.length : Int) 0) = some (r1, r2) := h
 clear h; have H' := aM H; clear H
 go_enter Try.func38, Try.ntmps38
 go_wp2
 go_loopg [7, 11] k (fun kq v7 v11 w' => ∃ (x0_1 : List Int) (x7_1 : Int) (x11_1 : Int), v7 = .int .u64 x7_1 ∧ v11 = .int .i64 x11_1 ∧ Aside0 (nat_give.l0 kq x0_1 l1 a2 x7_1 (l1.length : Int) x11_1 = some (r1, r2)) ∧ Aside0 (kq ≤ k) ∧ Aside0 (Kd.R (Kd.int .u64) 65 w' w0.heap.size (fun k_ => (P0_ k_ ∨ w.heap.size ≤ k_)) u9000_ x0_1) ∧ Aside0 (Kept w w' (fun k_ => P0_ k_)) ∧ Aside0 (Below w0.heap.size w0 w'))
 case atStart => exact ⟨(l0), (0), (0), (by first | rfl | (simp; done) | (simp [*]; done)), (by first | rfl | (simp; done) | (simp [*]; done)), H', ⟨Nat.le_refl _⟩, ⟨by apply_rules [HO0.out, rN, rD]⟩, ⟨by repeat (first | (with_reducible first | exact HK.out | apply Kept.alloc | apply Kept.drewN | apply Kept.drew) | exact HK.out)⟩, ⟨by apply_rules [HB.out, bA, pN, bD]⟩⟩
 case round =>
  clear H'
  try clear c1
  try clear p2
  try clear c3
  obtain ⟨x0_1, x7_1, x11_1, rfl, rfl, HA, HK1, HO_0, HK, HB⟩ := hrel
  cases gk with
  | zero => exact absurd HA.out (by simp [nat_give.l0])
  | succ k1 =>
   have H := HA.out
   clear HA
   simp only [nat_give.l0] at H
   by_cases c4 : x11_1 < (l1.length : Int)
   ·rw [if_pos c4] at H
    have c4b0 : decide (x11_1 < (l1.length : Int)) = true := dT c4
    clear c4
    obtain ⟨ji5, hji5⟩ : ∃ j_ : Int, (wrap64 (x11_1 + a2)) = j_ := ⟨_, rfl⟩
    replace H : (if 0 ≤ (ji5) then (if (ji5) < (x0_1.length : Int) then (if 0 ≤ x11_1 then (if x11_1 < (l1.length : Int) then (if 0 ≤ (rd x0_1 (ji5)) then (if 0 ≤ (rd l1 x11_1) then (if 0 ≤ x7_1 then (if x7_1 ≤ 1 then (nat_give.l0 k1 (x0_1.set ((ji5) : Int).toNat (((rd x0_1 (ji5)) + (rd l1 x11_1) + x7_1) % 18446744073709551616)) l1 a2 (((rd x0_1 (ji5)) + (rd l1 x11_1) + x7_1) / 18446744073709551616) (l1.length : Int) (wrap64 (x11_1 + 1))) else (none)) else (none)) else (none)) else (none)) else (none)) else (none)) else (none)) else (none)) = some (r1, r2) := by first | (rw [hji5] at H; exact H) | (simp only [hji5] at H ⊢; exact H)
    have hji5w : (IntKind.i64.wrap (x11_1 + a2)) = ji5 := (i64_w _).trans hji5
    by_cases c6 : 0 ≤ (ji5)
    rotate_left
    ·rw [if_neg c6] at H; cases H
    rw [if_pos c6] at H
    have c6b0 : decide (0 ≤ (ji5)) = true := dT c6
    clear c6
    by_cases c7 : (ji5) < (x0_1.length : Int)
    rotate_left
    ·rw [if_neg c7] at H; cases H
    rw [if_pos c7] at H
    have c7b0 : decide ((ji5) < (x0_1.length : Int)) = true := dT c7
    clear c7
    by_cases c8 : 0 ≤ x11_1
    rotate_left
    ·rw [if_neg c8] at H; cases H
    rw [if_pos c8] at H
    have c8b0 : decide (0 ≤ x11_1) = true := dT c8
    clear c8
    by_cases c9 : x11_1 < (l1.length : Int)
    rotate_left
    ·rw [if_neg c9] at H; cases H
    rw [if_pos c9] at H
    have c9b0 : decide (x11_1 < (l1.length : Int)) = true := dT c9
    clear c9
    by_cases c10 : 0 ≤ (rd x0_1 (ji5))
    rotate_left
    ·rw [if_neg c10] at H; cases H
    rw [if_pos c10] at H
    have c10b0 := eq_true c10
    have c10b1 : decide (0 ≤ (rd x0_1 (ji5))) = true := dT c10
    clear c10
    by_cases c11 : 0 ≤ (rd l1 x11_1)
    rotate_left
    ·rw [if_neg c11] at H; cases H
    rw [if_pos c11] at H
    have c11b0 := eq_true c11
    have c11b1 : decide (0 ≤ (rd l1 x11_1)) = true := dT c11
    clear c11
    by_cases c12 : 0 ≤ x7_1
    rotate_left
    ·rw [if_neg c12] at H; cases H
    rw [if_pos c12] at H
    have c12b0 := eq_true c12
    have c12b1 : decide (0 ≤ x7_1) = true := dT c12
    clear c12
    by_cases c13 : x7_1 ≤ 1
    rotate_left
    ·rw [if_neg c13] at H; cases H
    rw [if_pos c13] at H
    have c13b0 := eq_true c13
    have c13b1 : decide (x7_1 ≤ 1) = true := dT c13
    clear c13
    have hx14 := fun w_ => call_add64_28 (rd x0_1 (ji5)) (rd l1 x11_1) x7_1 (oD (by first | decide | (with_reducible assumption) | assumption | (simp only [decide_eq_true_eq]; omega))) (oD (by first | decide | (with_reducible assumption) | assumption | (simp only [decide_eq_true_eq]; omega))) (oD (by first | decide | (with_reducible assumption) | assumption | (simp only [decide_eq_true_eq]; omega))) (oD (by first | decide | (with_reducible assumption) | assumption | (simp only [decide_eq_true_eq]; omega))) w_
    obtain ⟨y331, hy331⟩ : ∃ y_ : List Int, y_ = (x0_1.set ((ji5) : Int).toNat (((rd x0_1 (ji5)) + (rd l1 x11_1) + x7_1) % 18446744073709551616)) := ⟨_, rfl⟩
    replace H : (nat_give.l0 k1 y331 l1 a2 (((rd x0_1 (ji5)) + (rd l1 x11_1) + x7_1) / 18446744073709551616) (l1.length : Int) (wrap64 (x11_1 + 1))) = some (r1, r2) := by first | (rw [hy331]; exact H) | exact H
    have Ny331 := aM hy331
    clear hy331; have H' := aM H; clear H
    try go_wp2
    have n0_ := aM (rD HO_0.out); have n1_ := aM (Kept.drew HK.out); have n2_ := aM (bD HB.out); clear HO_0 HK HB; have HO_0 := n0_; have HK := n1_; have HB := n2_; clear n0_ n1_ n2_
    obtain ⟨Ao17, co17, eo17⟩ := Kd.R_slice HO_0.out
    (first | subst eo17 | (injection eo17 with f1_ f2_ f3_; have f4_ := f1_.symm; have f5_ := f3_.symm; clear f1_ f2_ f3_; subst f4_; subst f5_))
    have p329 : 0 ≤ ((ji5) : Int) := oD (by first | (with_reducible assumption) | assumption)
    have q329 : (ji5) < (x0_1.length : Int) := oD (by first | (with_reducible assumption) | assumption)
    obtain ⟨ad329, e329, hx329_0⟩ := Kd.at_int (rS HO_0.out).2.2 (ji5) p329 q329
    cases e329
    replace p329 := eq_true p329
    replace q329 := eq_true q329
    have p330 : 0 ≤ (x11_1 : Int) := oD (by first | (with_reducible assumption) | assumption)
    have q330 : x11_1 < (l1.length : Int) := oD (by first | (with_reducible assumption) | assumption)
    obtain ⟨ad330, e330, hx330_0⟩ := Kd.at_int (Kd.C_kept_now HR1.out HK.out) x11_1 p330 q330
    have hw330_0 := hx330_0
    cases e330
    replace p330 := eq_true p330
    replace q330 := eq_true q330
    have p15 : 0 ≤ ((ji5) : Int) := oD (by first | (with_reducible assumption) | assumption)
    have q15 : ((ji5) : Int) < ((x0_1.length : Int) : Int) := oD (by first | (with_reducible assumption) | assumption)
    obtain ⟨go15, co15, eo15, gb15, gl15, cl15, HG15⟩ := Kd.R_form HO_0.out (by omega)
    (first | cases eo15 | (injection eo15 with ea_ en_ ec_; (first | subst ea_ | (injection ea_ with ea_; subst ea_)); subst ec_; clear en_))
    have GB15 := aM gb15
    have GG15 := aM HG15
    clear gb15 gl15 HG15
    have HMgo15 := aM (show (P0_ go15 ∨ w.heap.size ≤ go15) from (HO_0.out.1 _ rfl))
    (first | simp only [add_plain] at hx329_0 | skip)
    obtain ⟨hx15_0, hf15_0⟩ := Kd.R_celln 0 HO_0.out ((ji5) : Int) p15 q15
    replace p15 := eq_true p15
    replace q15 := eq_true q15
    have HP18 := Kd.R_putn HO_0.out ((ji5) : Int) (((rd x0_1 (ji5)) + (rd l1 x11_1) + x7_1) % 18446744073709551616)
    rw [← Ny331.out] at HP18
    have HQ18 := aM HP18
    clear HP18
    refine start_ (n := 22) (S := fun w' => w'.cell? ⟨go15, ((ji5)).toNat, none⟩ = some (.int .u64 (rd x0_1 (ji5))) ∧ w'.cell? (ad330.add (x11_1).toNat) = some (.int .u64 (rd l1 x11_1))) (ds := [20]) #[false, false, false, false, false, false, false, false, false, false, false, false, false, false, false, false, false, false, false, false, false, false] (by kernel_rfl) rfl rfl ⟨hx329_0, (Kd.foot_int (HR1.out _ (by repeat (first | exact HK.out | apply Kept.alloc | apply Kept.drewN | apply Kept.drew | refine Kept.setCell ?_ HMgo15.out _))) x11_1 (of_eq_true p330) (of_eq_true q330))⟩ (fun hHeld => ?_); refine with_tabW nat_give.tab5 nat_give.bits5 (fun HT_ HW_ => ?_)
    generalize wr.drew = w16 at HO_0 HK HB GG15 HQ18 hf15_0 hx15_0 hx329_0 hx330_0 hHeld ⊢
    refine pure_ (i := 0) (N := some 15) (v := ?_) (a' := ?_) #[true, false, false, false, false, false, false, false, false, false, false, false, false, false, false, false, false, false, false, false, false, false] rfl rfl (any_of HT_.out (by kernel_rfl)) (fun _ _ _ h => h) (Or.inl ⟨by rfl, ?_⟩) ?_ ?_
    rotate_left
    ·intro w'
     go_simp
     with_reducible rfl
    rotate_left
    ·simp only [Act.put, sI, sZ, sS, i64_w]
     rfl
    refine pure_ (i := 1) (N := some 16) (v := ?_) (a' := ?_) #[true, true, false, false, false, false, false, false, false, false, false, false, false, false, false, false, false, false, false, false, false, false] rfl rfl (any_of HT_.out (by kernel_rfl)) (fun _ _ _ h => h) (Or.inl ⟨by rfl, ?_⟩) ?_ ?_
    rotate_left
    ·intro w'
     go_simp
     with_reducible rfl
    rotate_left
    ·simp only [Act.put, sI, sZ, sS, i64_w]
     rfl
    refine pure_ (i := 2) (N := some 17) (v := ?_) (a' := ?_) #[true, true, true, false, false, false, false, false, false, false, false, false, false, false, false, false, false, false, false, false, false, false] rfl rfl (any_of HT_.out (by kernel_rfl)) (fun _ _ _ h => h) (Or.inl ⟨by rfl, ?_⟩) ?_ ?_
    rotate_left
    ·intro w'
     go_simp
     with_reducible rfl
    rotate_left
    ·simp only [Act.put, sI, sZ, sS, i64_w]
     rfl
    refine pure_ (i := 3) (N := some 18) (v := ?_) (a' := ?_) #[true, true, true, true, false, false, false, false, false, false, false, false, false, false, false, false, false, false, false, false, false, false] rfl rfl (any_of HT_.out (by kernel_rfl)) (fun _ _ _ h => h) (Or.inl ⟨by rfl, ?_⟩) ?_ ?_
    rotate_left
    ·intro w'
     go_simp
     with_reducible rfl
    rotate_left
    ·simp only [Act.put, sI, sZ, sS, i64_w]
     rfl
    refine pure_ (i := 4) (N := some 19) (v := ?_) (a' := ?_) #[true, true, true, true, true, false, false, false, false, false, false, false, false, false, false, false, false, false, false, false, false, false] rfl rfl (any_of HT_.out (by kernel_rfl)) (fun _ _ _ h => h) (Or.inl ⟨by rfl, ?_⟩) ?_ ?_
    rotate_left
    ·intro w'
     go_simp
     with_reducible rfl
    rotate_left
    ·simp only [Act.put, sI, sZ, sS, i64_w]
     rfl
    refine pure_ (i := 5) (N := some 20) (v := ?_) (a' := ?_) #[true, true, true, true, true, true, false, false, false, false, false, false, false, false, false, false, false, false, false, false, false, false] rfl rfl (any_of HT_.out (by kernel_rfl)) (fun _ _ _ h => h) (Or.inl ⟨by rfl, ?_⟩) ?_ ?_
    rotate_left
    ·intro w'
     go_simp
     with_reducible rfl
    rotate_left
    ·simp only [Act.put, sI, sZ, sS, i64_w]
     rfl
    refine pure_ (i := 6) (N := some 21) (v := ?_) (a' := ?_) #[true, true, true, true, true, true, true, false, false, false, false, false, false, false, false, false, false, false, false, false, false, false] rfl rfl (any_of HT_.out (by kernel_rfl)) (fun _ _ _ h => h) (Or.inl ⟨by rfl, ?_⟩) ?_ ?_
    rotate_left
    ·intro w'
     go_simp
     with_reducible rfl
    rotate_left
    ·simp only [Act.put, sI, sZ, sS, i64_w]
     rfl
    refine pure_ (i := 7) (N := some 22) (v := ?_) (a' := ?_) #[true, true, true, true, true, true, true, true, false, false, false, false, false, false, false, false, false, false, false, false, false, false] rfl rfl (any_of HT_.out (by kernel_rfl)) (fun _ _ _ h => h) (Or.inl ⟨by rfl, ?_⟩) ?_ ?_
    rotate_left
    ·intro w'
     go_simp
     with_reducible rfl
    rotate_left
    ·simp only [Act.put, sI, sZ, sS, i64_w]
     rfl
    refine pure_ (i := 8) (N := some 23) (v := ?_) (a' := ?_) #[true, true, true, true, true, true, true, true, true, false, false, false, false, false, false, false, false, false, false, false, false, false] rfl rfl (any_of HT_.out (by kernel_rfl)) (fun _ _ _ h => h) (Or.inl ⟨by rfl, ?_⟩) ?_ ?_
    rotate_left
    ·intro w'
     go_simp
     with_reducible rfl
    rotate_left
    ·simp only [Act.put, sI, sZ, sS, i64_w]
     rfl
    refine pure_ (i := 10) (N := some 25) (v := ?_) (a' := ?_) #[true, true, true, true, true, true, true, true, true, false, true, false, false, false, false, false, false, false, false, false, false, false] rfl rfl (any_of HT_.out (by kernel_rfl)) (fun _ _ _ h => h) (Or.inl ⟨by rfl, ?_⟩) ?_ ?_
    rotate_left
    ·intro w'
     go_simp
     with_reducible rfl
    rotate_left
    ·simp only [Act.put, sI, sZ, sS, i64_w]
     rfl
    refine pure_ (i := 11) (N := some 26) (v := ?_) (a' := ?_) #[true, true, true, true, true, true, true, true, true, false, true, true, false, false, false, false, false, false, false, false, false, false] rfl rfl (any_of HT_.out (by kernel_rfl)) (fun _ _ _ h => h) (Or.inl ⟨by rfl, ?_⟩) ?_ ?_
    rotate_left
    ·intro w'
     go_simp
     with_reducible rfl
    rotate_left
    ·simp only [Act.put, sI, sZ, sS, i64_w]
     rfl
    refine pure_ (i := 12) (N := some 27) (v := ?_) (a' := ?_) #[true, true, true, true, true, true, true, true, true, false, true, true, true, false, false, false, false, false, false, false, false, false] rfl rfl (any_of HT_.out (by kernel_rfl)) (fun _ _ _ h => h) (Or.inl ⟨by rfl, ?_⟩) ?_ ?_
    rotate_left
    ·intro w'
     go_simp
     with_reducible rfl
    rotate_left
    ·simp only [Act.put, sI, sZ, sS, i64_w]
     rfl
    refine pure_ (i := 14) (N := some 29) (v := ?_) (a' := ?_) #[true, true, true, true, true, true, true, true, true, false, true, true, true, false, true, false, false, false, false, false, false, false] rfl rfl (any_of HT_.out (by kernel_rfl)) (fun _ _ _ h => h) (Or.inl ⟨by rfl, ?_⟩) ?_ ?_
    rotate_left
    ·intro w'
     go_simp
     with_reducible rfl
    rotate_left
    ·simp only [Act.put, sI, sZ, sS, i64_w]
     rfl
    refine take_ (i := 9) (N := some 24) (v := ?_) (a' := ?_) #[true, true, true, true, true, true, true, true, true, true, true, true, true, false, true, false, false, false, false, false, false, false] rfl rfl (take_ofW HT_.out HW_.out (by kernel_rfl)) (fun _ _ _ h => h) (Or.inl ⟨by rfl, ?_⟩) hHeld ?_ ?_
    rotate_left
    ·rintro w' ⟨s0, s1⟩
     go_simp
     with_reducible rfl
    rotate_left
    ·simp only [Act.put, sI, sZ, sS, i64_w]
     rfl
    refine take_ (i := 13) (N := some 28) (v := ?_) (a' := ?_) #[true, true, true, true, true, true, true, true, true, true, true, true, true, true, true, false, false, false, false, false, false, false] rfl rfl (take_ofW HT_.out HW_.out (by kernel_rfl)) (fun _ _ _ h => h) (Or.inl ⟨by rfl, ?_⟩) hHeld ?_ ?_
    rotate_left
    ·rintro w' ⟨s0, s1⟩
     go_simp
     with_reducible rfl
    rotate_left
    ·simp only [Act.put, sI, sZ, sS, i64_w]
     rfl
    refine pure_ (i := 15) (N := some 30) (v := ?_) (a' := ?_) #[true, true, true, true, true, true, true, true, true, true, true, true, true, true, true, true, false, false, false, false, false, false] rfl rfl (any_of HT_.out (by kernel_rfl)) (fun _ _ _ h => h) (Or.inl ⟨by rfl, ?_⟩) ?_ ?_
    rotate_left
    ·intro w'
     go_simp
     with_reducible rfl
    rotate_left
    ·simp only [Act.put, sI, sZ, sS, i64_w]
     rfl
    refine pure_ (i := 16) (N := some 14) (v := ?_) (a' := ?_) #[true, true, true, true, true, true, true, true, true, true, true, true, true, true, true, true, true, false, false, false, false, false] rfl rfl (any_of HT_.out (by kernel_rfl)) (fun _ _ _ h => h) (Or.inl ⟨by rfl, ?_⟩) ?_ ?_
    rotate_left
    ·intro w'
     go_simp
     with_reducible rfl
    rotate_left
    ·simp only [Act.put, sI, sZ, sS, i64_w]
     rfl
    refine pure_ (i := 17) (N := some 31) (v := ?_) (a' := ?_) #[true, true, true, true, true, true, true, true, true, true, true, true, true, true, true, true, true, true, false, false, false, false] rfl rfl (any_of HT_.out (by kernel_rfl)) (fun _ _ _ h => h) (Or.inl ⟨by rfl, ?_⟩) ?_ ?_
    rotate_left
    ·intro w'
     go_simp
     with_reducible rfl
    rotate_left
    ·simp only [Act.put, sI, sZ, sS, i64_w]
     rfl
    refine pure_ (i := 18) (N := some 32) (v := ?_) (a' := ?_) #[true, true, true, true, true, true, true, true, true, true, true, true, true, true, true, true, true, true, true, false, false, false] rfl rfl (any_of HT_.out (by kernel_rfl)) (fun _ _ _ h => h) (Or.inl ⟨by rfl, ?_⟩) ?_ ?_
    rotate_left
    ·intro w'
     go_simp
     with_reducible rfl
    rotate_left
    ·simp only [Act.put, sI, sZ, sS, i64_w]
     rfl
    refine pure_ (i := 19) (N := some 33) (v := ?_) (a' := ?_) #[true, true, true, true, true, true, true, true, true, true, true, true, true, true, true, true, true, true, true, true, false, false] rfl rfl (any_of HT_.out (by kernel_rfl)) (fun _ _ _ h => h) (Or.inl ⟨by rfl, ?_⟩) ?_ ?_
    rotate_left
    ·intro w'
     go_simp
     with_reducible rfl
    rotate_left
    ·simp only [Act.put, sI, sZ, sS, i64_w]
     rfl
    refine last_ (i := 20) (N := none) #[true, true, true, true, true, true, true, true, true, true, true, true, true, true, true, true, true, true, true, true, true, false] rfl rfl (one_of HT_.out (by kernel_rfl)) (by decide) (fun K hK => ?_)
    refine skip_ (w1 := ?_) (by rfl) rfl ?_ ?_
    rotate_left
    ·go_simp
     rfl
    refine hK.out _ _ ?_
    clear hK K
    refine pure_ (i := 21) (N := some 7) (v := ?_) (a' := ?_) #[true, true, true, true, true, true, true, true, true, true, true, true, true, true, true, true, true, true, true, true, true, true] rfl rfl (any_of HT_.out (by kernel_rfl)) (fun _ _ _ h => h) (Or.inl ⟨by rfl, ?_⟩) ?_ ?_
    rotate_left
    ·intro w'
     go_simp
     with_reducible rfl
    rotate_left
    ·simp only [Act.put, sI, sZ, sS, i64_w]
     rfl
    refine done_ (done_of HT_.out (by kernel_rfl)) ?_
    try go_wp2
    go_roundg k1
    case measure => have := HK1.out; omega
    case rel => exact ⟨(y331), (((rd x0_1 (ji5)) + (rd l1 x11_1) + x7_1) / 18446744073709551616), (wrap64 (x11_1 + 1)), (by first | rfl | (simp; done) | (simp only [← hji5] <;> (first | rfl | simp)) | (simp [*]; done)), (by first | rfl | (simp; done) | (simp [*]; done)), (by first | exact H' | (have h_ := H'; simp only [← hji5] at h_; exact h_)), ⟨by have := HK1.out; omega⟩, ⟨by (with_reducible repeat (first | apply rN | apply rD)); exact HQ18.out⟩, ⟨by repeat (first | (with_reducible first | exact HK.out | apply Kept.alloc | apply Kept.drewN | apply Kept.drew | refine Kept.setCell ?_ HMgo15.out _) | exact HK.out)⟩, ⟨by repeat (first | (with_reducible first | exact HB.out | apply bA | apply pN | apply bD | refine bE ?_ GB15.out) | exact HB.out)⟩⟩
   ·rw [if_neg c4] at H
    have c4b0 : decide (x11_1 < (l1.length : Int)) = false := decide_eq_false c4
    clear c4
    obtain ⟨ji19, hji19⟩ : ∃ j_ : Int, (wrap64 (a2 + (l1.length : Int))) = j_ := ⟨_, rfl⟩
    replace H : (if 0 ≤ (ji19) then (if (ji19) < (x0_1.length : Int) then (if 0 ≤ (rd x0_1 (ji19)) then (if 0 ≤ x7_1 then (if x7_1 ≤ 1 then (some (decide ((((rd x0_1 (ji19)) + x7_1) / 18446744073709551616) > 0), (x0_1.set ((ji19) : Int).toNat (((rd x0_1 (ji19)) + x7_1) % 18446744073709551616)))) else (none)) else (none)) else (none)) else (none)) else (none)) = some (r1, r2) := by first | (rw [hji19] at H; exact H) | (simp only [hji19] at H ⊢; exact H)
    have hji19w : (IntKind.i64.wrap (a2 + (l1.length : Int))) = ji19 := (i64_w _).trans hji19
    by_cases c20 : 0 ≤ (ji19)
    rotate_left
    ·rw [if_neg c20] at H; cases H
    rw [if_pos c20] at H
    have c20b0 : decide (0 ≤ (ji19)) = true := dT c20
    clear c20
    by_cases c21 : (ji19) < (x0_1.length : Int)
    rotate_left
    ·rw [if_neg c21] at H; cases H
    rw [if_pos c21] at H
    have c21b0 : decide ((ji19) < (x0_1.length : Int)) = true := dT c21
    clear c21
    by_cases c22 : 0 ≤ (rd x0_1 (ji19))
    rotate_left
    ·rw [if_neg c22] at H; cases H
    rw [if_pos c22] at H
    have c22b0 := eq_true c22
    have c22b1 : decide (0 ≤ (rd x0_1 (ji19))) = true := dT c22
    clear c22
    by_cases c23 : 0 ≤ x7_1
    rotate_left
    ·rw [if_neg c23] at H; cases H
    rw [if_pos c23] at H
    have c23b0 := eq_true c23
    have c23b1 : decide (0 ≤ x7_1) = true := dT c23
    clear c23
    by_cases c24 : x7_1 ≤ 1
    rotate_left
    ·rw [if_neg c24] at H; cases H
    rw [if_pos c24] at H
    have c24b0 := eq_true c24
    have c24b1 : decide (x7_1 ≤ 1) = true := dT c24
    clear c24
    have hx25 := fun w_ => call_add64_28 (rd x0_1 (ji19)) 0 x7_1 (oD (by first | decide | (with_reducible assumption) | assumption | (simp only [decide_eq_true_eq]; omega))) (oD (by first | decide | (with_reducible assumption) | assumption | (simp only [decide_eq_true_eq]; omega))) (oD (by first | decide | (with_reducible assumption) | assumption | (simp only [decide_eq_true_eq]; omega))) (oD (by first | decide | (with_reducible assumption) | assumption | (simp only [decide_eq_true_eq]; omega))) w_
    obtain ⟨y333, hy333⟩ : ∃ y_ : List Int, y_ = (x0_1.set ((ji19) : Int).toNat (((rd x0_1 (ji19)) + x7_1) % 18446744073709551616)) := ⟨_, rfl⟩
    replace H : (some (decide ((((rd x0_1 (ji19)) + x7_1) / 18446744073709551616) > 0), y333)) = some (r1, r2) := by first | (rw [hy333]; exact H) | exact H
    have Ny333 := aM hy333
    clear hy333
    simp only [Option.some.injEq, Prod.mk.injEq] at H
    obtain ⟨rfl, rfl⟩ := H
    obtain ⟨Ao27, co27, eo27⟩ := Kd.R_slice HO_0.out
    subst eo27
    have p332 : 0 ≤ ((ji19) : Int) := oD (by first | (with_reducible assumption) | assumption)
    have q332 : (ji19) < (x0_1.length : Int) := oD (by first | (with_reducible assumption) | assumption)
    obtain ⟨ad332, e332, hx332_0⟩ := Kd.at_int (rS HO_0.out).2.2 (ji19) p332 q332
    cases e332
    replace p332 := eq_true p332
    replace q332 := eq_true q332
    have p26 : 0 ≤ ((ji19) : Int) := oD (by first | (with_reducible assumption) | assumption)
    have q26 : ((ji19) : Int) < ((x0_1.length : Int) : Int) := oD (by first | (with_reducible assumption) | assumption)
    obtain ⟨go26, co26, eo26, gb26, gl26, cl26, HG26⟩ := Kd.R_form HO_0.out (by omega)
    (first | cases eo26 | (injection eo26 with ea_ en_ ec_; (first | subst ea_ | (injection ea_ with ea_; subst ea_)); subst ec_; clear en_))
    have GB26 := aM gb26
    have GG26 := aM HG26
    clear gb26 gl26 HG26
    have HMgo26 := aM (show (P0_ go26 ∨ w.heap.size ≤ go26) from (HO_0.out.1 _ rfl))
    (first | simp only [add_plain] at hx332_0 | skip)
    obtain ⟨hx26_0, hf26_0⟩ := Kd.R_celln 0 HO_0.out ((ji19) : Int) p26 q26
    replace p26 := eq_true p26
    replace q26 := eq_true q26
    have HP28 := Kd.R_putg HO_0.out ((ji19) : Int) (((rd x0_1 (ji19)) + x7_1) % 18446744073709551616)
    go_wp2_with (first | ((with_reducible refine gate_store (t := 65) (p := 52) rfl ?_); refine store_event (t := 65) (p := 52) (v := ?vo_w29) (w1 := (wr.setCell ⟨go26, ((ji19) : Int).toNat, none⟩ (.int .u64 (((rd x0_1 (ji19)) + x7_1) % 18446744073709551616)))) ?hg ?ho ?hn ?hr ?_; (case ho => rfl); (case hg => rfl); (case hn => rfl); (case hr => first | (go_simp; done) | (go_simp; rfl)); intro w29 hw; have hg : wr.grownBy w29 (some go26) := (by rw [hw]; exact HP28.2); have hp_ : Kd.R (Kd.int .u64) 65 w29 w0.heap.size (fun k_ => (P0_ k_ ∨ w.heap.size ≤ k_)) (.slice (some ⟨go26, 0, none⟩) x0_1.length co27) y333 := (by rw [hw, Ny333.out]; exact HP28.1); clear HP28; have n0_ := aM (hp_); have n1_ := aM ((by rw [hw]; exact bE (HB.out) GB26.out : Below w0.heap.size w0 w29)); have n2_ := aM (Kept.of_grown (S := (fun k_ => P0_ k_)) hg (by repeat (first | (with_reducible first | exact HK.out | apply Kept.alloc | apply Kept.drewN | apply Kept.drew) | exact HK.out)) (fun k_ e_ => (HO_0.out.1 k_ e_))); clear HO_0 HB HK; have HO_0 := n0_; have HB := n1_; have HK := n2_; clear n0_ n1_ n2_ hg hw hp_))
    go_ret
    exact ⟨by first | rfl | (simp [errW_none, errW_some] <;> rfl) | (simp only [← hji19]; first | rfl | (simp [errW_none, errW_some] <;> rfl)) | (simp [*, errW_none, errW_some] <;> rfl), by (with_reducible repeat (first | apply rN | apply rD)); exact HO_0.out, by apply_rules [HB.out, bA, pN, bD], by repeat (first | (with_reducible first | exact HK.out | apply Kept.alloc | apply Kept.drewN | apply Kept.drew) | exact HK.out)⟩
end Go.Proofs.Ytaoekkikpceccaa.QLoadAdmitKeepsTheLimit
