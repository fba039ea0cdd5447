/- Lean functions that answer as Go functions of this seat do, each with its proof. Condition: the Lean function answers 'some'. -/
import Derived.Test.YtaoekkikpceccaaLx0
import Derived.Test.YtaoekkikpceccaaLx4
import Derived.Test.YtaoekkikpceccaaLx5
namespace Go.Proofs.Ytaoekkikpceccaa.QLoadAdmitKeepsTheLimit
open Go.RowKit Go.Proofs.YtaoekkikpceccaaW.PrintWords Go.Proofs.YtaoekkikpceccaaW.PrintLast Go.Proofs.YtaoekkikpceccaaW.PrintMore
attribute [local go_sem] max2_int min2_int max_two min_two
set_option linter.unusedVariables false
set_option maxHeartbeats 8000000
set_option maxRecDepth 100000
set_option linter.unusedSimpArgs false
mutual
def nat_Mul.l0 : Nat → List Int → List Int → List Int → Int → Int → Option (List Int)
 | 0, _, _, _, _, _ => none
 | k + 1, x1, x5, x20, x21, x22 => if x22 < x21 then (if 0 ≤ x22 then (if x22 < (x20.length : Int) then (nat_Mul.l1 k x1 x5 x22 (rd x20 x22) 0 x20 x21 x22 x1 (x1.length : Int) 0) else (none)) else (none)) else ((nat_cut.f k x5).bind fun t168 => (some t168))
def nat_Mul.l1 : Nat → List Int → List Int → Int → Int → Int → List Int → Int → Int → List Int → Int → Int → Option (List Int)
 | 0, _, _, _, _, _, _, _, _, _, _, _ => none
 | k + 1, x1, x5, x6, x7, x8, x20, x21, x22, x27, x28, x29 => if x29 < x28 then (if 0 ≤ x29 then (if x29 < (x27.length : Int) then ((bits_Mul64.f x7 (rd x27 x29)).bind fun bt173 => (if 0 ≤ bt173.2 then (if 0 ≤ x8 then (if 0 ≤ (wrap64 (x6 + x29)) then (if (wrap64 (x6 + x29)) < (x5.length : Int) then (if 0 ≤ (rd x5 (wrap64 (x6 + x29))) then (nat_Mul.l1 k x1 (x5.set ((wrap64 (x6 + x29)) : Int).toNat (((rd x5 (wrap64 (x6 + x29))) + ((bt173.2 + x8) % 18446744073709551616)) % 18446744073709551616)) x6 x7 (IntKind.u64.wrap ((IntKind.u64.wrap (bt173.1 + ((bt173.2 + x8) / 18446744073709551616))) + (((rd x5 (wrap64 (x6 + x29))) + ((bt173.2 + x8) % 18446744073709551616)) / 18446744073709551616))) x20 x21 x22 x27 x28 (wrap64 (x29 + 1))) else (none)) else (none)) else (none)) else (none)) else (none))) else (none)) else (none)) else (if 0 ≤ (wrap64 (x6 + (x1.length : Int))) then (if (wrap64 (x6 + (x1.length : Int))) < (x5.length : Int) then (nat_Mul.l0 k x1 (x5.set ((wrap64 (x6 + (x1.length : Int))) : Int).toNat x8) x20 x21 (wrap64 (x22 + 1))) else (none)) else (none))
end
def nat_Mul.f (k : Nat) (l0 : List Int) (l1 : List Int) : Option (List Int) := if 0 ≤ (wrap64 ((l0.length : Int) + (l1.length : Int))) then (if (wrap64 ((l0.length : Int) + (l1.length : Int)) : Int).toNat ≤ 35184372088832 then (nat_Mul.l0 k l1 (List.replicate (wrap64 ((l0.length : Int) + (l1.length : Int)) : Int).toNat 0) l0 (l0.length : Int) 0) else (none)) else (none)
theorem nat_Mul.mono_l : ∀ k, (∀ y0 y1 y2 y3 y4, LeO (nat_Mul.l0 k y0 y1 y2 y3 y4) (nat_Mul.l0 (k + 1) y0 y1 y2 y3 y4)) ∧ (∀ y0 y1 y2 y3 y4 y5 y6 y7 y8 y9 y10, LeO (nat_Mul.l1 k y0 y1 y2 y3 y4 y5 y6 y7 y8 y9 y10) (nat_Mul.l1 (k + 1) y0 y1 y2 y3 y4 y5 y6 y7 y8 y9 y10))
 | 0 => ⟨fun _ _ _ _ _ r h => by simp [nat_Mul.l0] at h, fun _ _ _ _ _ _ _ _ _ _ _ r h => by simp [nat_Mul.l1] at h⟩
 | k + 1 => by
  obtain ⟨ih0, ih1⟩ := nat_Mul.mono_l k
  refine ⟨?_, ?_⟩
  ·intro y0 y1 y2 y3 y4
   unfold nat_Mul.l0
   repeat' first
   | (with_reducible exact ih0 _ _ _ _ _)
   | (with_reducible exact ih1 _ _ _ _ _ _ _ _ _ _ _)
   | (with_reducible exact nat_cut.mono _ _)
   | (with_reducible exact LeO.refl _)
   | (with_reducible exact LeO.none _)
   | (with_reducible refine LeO.ite ?_ ?_)
   | (with_reducible refine LeO.bind ?_ (fun _ => ?_))
  ·intro y0 y1 y2 y3 y4 y5 y6 y7 y8 y9 y10
   unfold nat_Mul.l1
   repeat' first
   | (with_reducible exact ih0 _ _ _ _ _)
   | (with_reducible exact ih1 _ _ _ _ _ _ _ _ _ _ _)
   | (with_reducible exact nat_cut.mono _ _)
   | (with_reducible exact LeO.refl _)
   | (with_reducible exact LeO.none _)
   | (with_reducible refine LeO.ite ?_ ?_)
   | (with_reducible refine LeO.bind ?_ (fun _ => ?_))
theorem nat_Mul.mono : ∀ a0 a1 k, LeO (nat_Mul.f k a0 a1) (nat_Mul.f (k + 1) a0 a1) := by
 intro a0 a1 k
 obtain ⟨ih0, ih1⟩ := nat_Mul.mono_l k
 unfold nat_Mul.f
 repeat' first
   | (with_reducible exact ih0 _ _ _ _ _)
   | (with_reducible exact ih1 _ _ _ _ _ _ _ _ _ _ _)
   | (with_reducible exact nat_cut.mono _ _)
   | (with_reducible exact LeO.refl _)
   | (with_reducible exact LeO.none _)
   | (with_reducible refine LeO.ite ?_ ?_)
   | (with_reducible refine LeO.bind ?_ (fun _ => ?_))
theorem nat_Mul.calls (k : Nat) (A0 : Option Addr) (c0 : Nat) (l0 : List Int) (A1 : Option Addr) (c1 : Nat) (l1 : List Int) (r : List Int) (w : World) (hr0 : Kd.C (Kd.int .u64) w A0 l0.length l0) (hc0 : l0.length ≤ c0) (hr1 : Kd.C (Kd.int .u64) w A1 l1.length l1) (hc1 : l1.length ≤ c1) (h : nat_Mul.f k l0 l1 = some r) :
  Calls Try.prog 30 #[.slice A0 l0.length c0, .slice A1 l1.length c1] w fun e w' => ∃ v0_ : Value, e = .returned (v0_) ∧ Kd.R (Kd.int .u64) 65 w' w.heap.size (fun _ => True) v0_ r ∧ Below w.heap.size w w' := by
 have HR0 := aM hr0
 have HC0 := aM hc0
 clear hr0 hc0
 have HR1 := aM hr1
 have HC1 := aM hc1
 clear hr1 hc1
 have HB := aM (Below.refl w.heap.size w)
 have H : (if 0 ≤ (wrap64 ((l0.length : Int) + (l1.length : Int))) then (if (wrap64 ((l0.length : Int) + (l1.length : Int)) : Int).toNat ≤ 35184372088832 then (nat_Mul.l0 k l1 (List.replicate (wrap64 ((l0.length : Int) + (l1.length : Int)) : Int).toNat 0) l0 (l0.length : Int) 0) else (none)) else (none)) = some r := h
 clear h
 obtain ⟨ji3, hji3⟩ : ∃ j_ : Int, (wrap64 ((l0.length : Int) + (l1.length : Int))) = j_ := ⟨_, rfl⟩
 replace H : (if 0 ≤ (ji3) then (if (ji3 : Int).toNat ≤ 35184372088832 then (nat_Mul.l0 k l1 (List.replicate (ji3 : Int).toNat 0) l0 (l0.length : Int) 0) else (none)) else (none)) = some r := by first | (rw [hji3] at H; exact H) | (simp only [hji3] at H ⊢; exact H)
 have hji3w : (IntKind.i64.wrap ((l0.length : Int) + (l1.length : Int))) = ji3 := (i64_w _).trans hji3
 by_cases c4 : 0 ≤ (ji3)
 rotate_left
 ·rw [if_neg c4] at H; cases H
 rw [if_pos c4] at H
 have c4b0 := eq_true c4
 have c4b1 : decide (0 ≤ (ji3)) = true := dT c4
 clear c4
 by_cases c5 : (ji3 : Int).toNat ≤ 35184372088832
 rotate_left
 ·rw [if_neg c5] at H; cases H
 rw [if_pos c5] at H
 have c5b0 := eq_true c5
 have c5b1 : decide ((ji3 : Int).toNat ≤ 35184372088832) = true := dT c5
 clear c5
 obtain ⟨y165, hy165⟩ : ∃ y_ : List Int, y_ = (List.replicate (ji3 : Int).toNat 0) := ⟨_, rfl⟩
 replace H : (nat_Mul.l0 k l1 y165 l0 (l0.length : Int) 0) = some r := by first | (rw [hy165]; exact H) | exact H
 have Ny165 := aM hy165
 clear hy165; have H' := aM H; clear H
 go_enter Try.func30, Try.ntmps30
 go_wp2_with (first | ((with_reducible refine gate_dst (N := 19) rfl ?_); refine Kd.R_make (Kd.int .u64) _ 65 rfl (N := 19) rfl 53 _ _ rfl ji3 rfl rfl Try.underlying53 (.int .u64 0) 8 info65 rfl (by decide) (by omega) 0 (ok := fun _ => True) (okp := fun _ => True) rfl (fun _ hk => hk) trivial (oD (by first | (with_reducible assumption) | assumption)) (Nat.le_trans (Nat.mul_le_mul_right _ (oD (by first | (with_reducible assumption) | assumption) : ji3.toNat ≤ 35184372088832)) (by omega)) (Below.refl _ _) (Nat.le_refl _) ?_; intro v166 w6 ho7 hb hg_ hnew_; clear hg_ hnew_; (first | rw [← Ny165.out] at ho7 | (simp only [Int.reduceToNat] at ho7; rw [← Ny165.out] at ho7)); have n0_ := aM (Kd.R_lower ho7 (bZ (by apply_rules [HB.out, bA, pN, bD]))); have n1_ := aM (bS (by apply_rules [HB.out, bA, pN, bD]) hb); clear HB; have HO167 := n0_; have HB := n1_; clear n0_ n1_ hb ho7))
 go_loopg [22] k (fun kq v22 w' => ∃ (x5_1 : List Int) (x22_1 : Int), v22 = .int .i64 x22_1 ∧ Aside0 (nat_Mul.l0 kq l1 x5_1 l0 (l0.length : Int) x22_1 = some r) ∧ Aside0 (kq ≤ k) ∧ Aside0 (Kd.R (Kd.int .u64) 65 w' w.heap.size (fun _ => True) v166 x5_1) ∧ Aside0 (Below w.heap.size w w'))
 case atStart => exact ⟨(y165), (0), (by first | rfl | (simp; done) | (simp [*]; done)), H', ⟨Nat.le_refl _⟩, ⟨by apply_rules [HO167.out, rN, rD]⟩, ⟨by apply_rules [HB.out, bA, pN, bD]⟩⟩
 case round =>
  clear H'
  try clear c1
  try clear p2
  try clear c3
  try clear c4
  try clear c4b0
  try clear c4b1
  try clear c5
  try clear c5b0
  try clear c5b1
  try clear p6
  obtain ⟨x5_1, x22_1, rfl, HA, HK1, HO_5, HB⟩ := hrel
  cases gk with
  | zero => exact absurd HA.out (by simp [nat_Mul.l0])
  | succ k1 =>
   have H := HA.out
   clear HA
   simp only [nat_Mul.l0] at H
   by_cases c8 : x22_1 < (l0.length : Int)
   ·rw [if_pos c8] at H
    have c8b0 : decide (x22_1 < (l0.length : Int)) = true := dT c8
    clear c8
    by_cases c9 : 0 ≤ x22_1
    rotate_left
    ·rw [if_neg c9] at H; cases H
    rw [if_pos c9] at H
    have c9b0 : decide (0 ≤ x22_1) = true := dT c9
    clear c9
    by_cases c10 : x22_1 < (l0.length : Int)
    rotate_left
    ·rw [if_neg c10] at H; cases H
    rw [if_pos c10] at H
    have c10b0 : decide (x22_1 < (l0.length : Int)) = true := dT c10
    clear c10; have H' := aM H; clear H
    have p171 : 0 ≤ (x22_1 : Int) := oD (by first | (with_reducible assumption) | assumption)
    have q171 : x22_1 < (l0.length : Int) := oD (by first | (with_reducible assumption) | assumption)
    obtain ⟨ad171, e171, hx171_0⟩ := Kd.at_int HR0.out x22_1 p171 q171
    cases e171
    replace hx171_0 := (HB.out.cell (wL w _ hx171_0)).trans hx171_0
    replace p171 := eq_true p171
    replace q171 := eq_true q171
    go_wp2
    go_loopg [8, 29] k1 (fun kq v8 v29 w' => ∃ (x5_2 : List Int) (x8_2 : Int) (x29_2 : Int), v8 = .int .u64 x8_2 ∧ v29 = .int .i64 x29_2 ∧ Aside0 (nat_Mul.l1 kq l1 x5_2 x22_1 (rd l0 x22_1) x8_2 l0 (l0.length : Int) x22_1 l1 (l1.length : Int) x29_2 = some r) ∧ Aside0 (kq ≤ k1) ∧ Aside0 (Kd.R (Kd.int .u64) 65 w' w.heap.size (fun _ => True) v166 x5_2) ∧ Aside0 (Below w.heap.size w w'))
    case atStart => exact ⟨(x5_1), (0), (0), (by first | rfl | (simp; done) | (simp [*]; done)), (by first | rfl | (simp; done) | (simp [*]; done)), H', ⟨Nat.le_refl _⟩, ⟨by apply_rules [HO_5.out, rN, rD]⟩, ⟨by apply_rules [HB.out, bA, pN, bD]⟩⟩
    case round =>
     clear H'
     try clear c1
     try clear p1
     try clear q1
     try clear hx1
     try clear p2
     try clear c3
     try clear c4
     try clear c4b0
     try clear c4b1
     try clear c5
     try clear c5b0
     try clear c5b1
     try clear p6
     try clear c8
     try clear c8b0
     try clear c9
     try clear c9b0
     try clear c10
     try clear c10b0
     try clear hx171_0
     try clear p171
     try clear p2
     try clear p6
     try clear q171
     obtain ⟨x5_2, x8_2, x29_2, rfl, rfl, HA, HK2, HO_5, HB⟩ := hrel
     cases gk with
     | zero => exact absurd HA.out (by simp [nat_Mul.l1])
     | succ k2 =>
      have H := HA.out
      clear HA
      simp only [nat_Mul.l1] at H
      by_cases c11 : x29_2 < (l1.length : Int)
      ·rw [if_pos c11] at H
       have c11b0 : decide (x29_2 < (l1.length : Int)) = true := dT c11
       clear c11
       by_cases c12 : 0 ≤ x29_2
       rotate_left
       ·rw [if_neg c12] at H; cases H
       rw [if_pos c12] at H
       have c12b0 : decide (0 ≤ x29_2) = true := dT c12
       clear c12
       by_cases c13 : x29_2 < (l1.length : Int)
       rotate_left
       ·rw [if_neg c13] at H; cases H
       rw [if_pos c13] at H
       have c13b0 : decide (x29_2 < (l1.length : Int)) = true := dT c13
       clear c13
       replace H := oB H
       obtain ⟨⟨t173, t174⟩, A140, H⟩ := H
       replace H : (if 0 ≤ t174 then (if 0 ≤ x8_2 then (if 0 ≤ (wrap64 (x22_1 + x29_2)) then (if (wrap64 (x22_1 + x29_2)) < (x5_2.length : Int) then (if 0 ≤ (rd x5_2 (wrap64 (x22_1 + x29_2))) then (nat_Mul.l1 k2 l1 (x5_2.set ((wrap64 (x22_1 + x29_2)) : Int).toNat (((rd x5_2 (wrap64 (x22_1 + x29_2))) + ((t174 + x8_2) % 18446744073709551616)) % 18446744073709551616)) x22_1 (rd l0 x22_1) (IntKind.u64.wrap ((IntKind.u64.wrap (t173 + ((t174 + x8_2) / 18446744073709551616))) + (((rd x5_2 (wrap64 (x22_1 + x29_2))) + ((t174 + x8_2) % 18446744073709551616)) / 18446744073709551616))) l0 (l0.length : Int) x22_1 l1 (l1.length : Int) (wrap64 (x29_2 + 1))) else (none)) else (none)) else (none)) else (none)) else (none)) = some r := H
       have A14 := aM A140; clear A140
       by_cases c15 : 0 ≤ t174
       rotate_left
       ·rw [if_neg c15] at H; cases H
       rw [if_pos c15] at H
       have c15b0 := eq_true c15
       have c15b1 : decide (0 ≤ t174) = true := dT c15
       clear c15
       by_cases c16 : 0 ≤ x8_2
       rotate_left
       ·rw [if_neg c16] at H; cases H
       rw [if_pos c16] at H
       have c16b0 := eq_true c16
       have c16b1 : decide (0 ≤ x8_2) = true := dT c16
       clear c16
       have hx17 := fun w_ => call_add64_28 t174 x8_2 0 (oD (by first | decide | (with_reducible assumption) | assumption | (simp only [decide_eq_true_eq]; omega))) (oD (by first | decide | (with_reducible assumption) | assumption | (simp only [decide_eq_true_eq]; omega))) (oD (by first | decide | (with_reducible assumption) | assumption | (simp only [decide_eq_true_eq]; omega))) (oD (by first | decide | (with_reducible assumption) | assumption | (simp only [decide_eq_true_eq]; omega))) w_
       obtain ⟨ji18, hji18⟩ : ∃ j_ : Int, (wrap64 (x22_1 + x29_2)) = j_ := ⟨_, rfl⟩
       replace H : (if 0 ≤ (ji18) then (if (ji18) < (x5_2.length : Int) then (if 0 ≤ (rd x5_2 (ji18)) then (nat_Mul.l1 k2 l1 (x5_2.set ((ji18) : Int).toNat (((rd x5_2 (ji18)) + ((t174 + x8_2) % 18446744073709551616)) % 18446744073709551616)) x22_1 (rd l0 x22_1) (IntKind.u64.wrap ((IntKind.u64.wrap (t173 + ((t174 + x8_2) / 18446744073709551616))) + (((rd x5_2 (ji18)) + ((t174 + x8_2) % 18446744073709551616)) / 18446744073709551616))) l0 (l0.length : Int) x22_1 l1 (l1.length : Int) (wrap64 (x29_2 + 1))) else (none)) else (none)) else (none)) = some r := by first | (rw [hji18] at H; exact H) | (simp only [hji18] at H ⊢; exact H)
       (try rw [hji18] at A14)
       have hji18w : (IntKind.i64.wrap (x22_1 + x29_2)) = ji18 := (i64_w _).trans hji18
       by_cases c19 : 0 ≤ (ji18)
       rotate_left
       ·rw [if_neg c19] at H; cases H
       rw [if_pos c19] at H
       have c19b0 : decide (0 ≤ (ji18)) = true := dT c19
       clear c19
       by_cases c20 : (ji18) < (x5_2.length : Int)
       rotate_left
       ·rw [if_neg c20] at H; cases H
       rw [if_pos c20] at H
       have c20b0 : decide ((ji18) < (x5_2.length : Int)) = true := dT c20
       clear c20
       by_cases c21 : 0 ≤ (rd x5_2 (ji18))
       rotate_left
       ·rw [if_neg c21] at H; cases H
       rw [if_pos c21] at H
       have c21b0 := eq_true c21
       have c21b1 : decide (0 ≤ (rd x5_2 (ji18))) = true := dT c21
       clear c21
       have hx22 := fun w_ => call_add64_28 (rd x5_2 (ji18)) ((t174 + x8_2) % 18446744073709551616) 0 (oD (by first | decide | (with_reducible assumption) | assumption | (simp only [decide_eq_true_eq]; omega))) (oD (by first | decide | (with_reducible assumption) | assumption | (simp only [decide_eq_true_eq]; omega))) (oD (by first | decide | (with_reducible assumption) | assumption | (simp only [decide_eq_true_eq]; omega))) (oD (by first | decide | (with_reducible assumption) | assumption | (simp only [decide_eq_true_eq]; omega))) w_
       obtain ⟨y176, hy176⟩ : ∃ y_ : List Int, y_ = (x5_2.set ((ji18) : Int).toNat (((rd x5_2 (ji18)) + ((t174 + x8_2) % 18446744073709551616)) % 18446744073709551616)) := ⟨_, rfl⟩
       replace H : (nat_Mul.l1 k2 l1 y176 x22_1 (rd l0 x22_1) (IntKind.u64.wrap ((IntKind.u64.wrap (t173 + ((t174 + x8_2) / 18446744073709551616))) + (((rd x5_2 (ji18)) + ((t174 + x8_2) % 18446744073709551616)) / 18446744073709551616))) l0 (l0.length : Int) x22_1 l1 (l1.length : Int) (wrap64 (x29_2 + 1))) = some r := by first | (rw [hy176]; exact H) | exact H
       have Ny176 := aM hy176
       clear hy176; have H' := aM H; clear H
       have p172 : 0 ≤ (x29_2 : Int) := oD (by first | (with_reducible assumption) | assumption)
       have q172 : x29_2 < (l1.length : Int) := oD (by first | (with_reducible assumption) | assumption)
       obtain ⟨ad172, e172, hx172_0⟩ := Kd.at_int HR1.out x29_2 p172 q172
       cases e172
       replace hx172_0 := (HB.out.cell (wL w _ hx172_0)).trans hx172_0
       replace p172 := eq_true p172
       replace q172 := eq_true q172
       go_wp2_with (first | ((with_reducible refine gC (f := 40) rfl ?_); refine gL (some 37) rfl rfl Try.func40 (by kernel_rfl) rfl #[.int .u64 (rd l0 x22_1), .int .u64 (rd l1 x29_2)] rfl (by (try simp only [mA, mC, mN]); first | done | rfl | (simp only [lD, lT]; rfl)) ?_; (with_reducible refine (bits_Mul64.calls (rd l0 x22_1) (rd l1 x29_2) t173 t174 _ A14.out).mono ?_); rintro e w' ⟨rfl, ⟨nd, rfl⟩⟩; refine ⟨_, rfl, ?_⟩; (try (rw [drewN_self wr]; generalize hq_ : World.drewN wr _ = wr; have n0_ : Aside0 (Kd.R (Kd.int .u64) 65 wr w.heap.size (fun _ => True) v166 x5_2) := ⟨by rw [← hq_]; exact (by apply_rules [HO_5.out, rN, rD])⟩; have n1_ : Aside0 (Below w.heap.size w wr) := ⟨by rw [← hq_]; exact (by apply_rules [HB.out, bA, pN, bD])⟩; clear HO_5 HB hq_; have HO_5 := n0_; have HB := n1_; clear n0_ n1_)); obtain ⟨Ao24, co24, eo24⟩ := Kd.R_slice HO_5.out; subst eo24; have p175 : 0 ≤ ((ji18) : Int) := oD (by first | (with_reducible assumption) | assumption); have q175 : (ji18) < (x5_2.length : Int) := oD (by first | (with_reducible assumption) | assumption); obtain ⟨ad175, e175, hx175_0⟩ := Kd.at_int (rS HO_5.out).2.2 (ji18) p175 q175; cases e175; replace p175 := eq_true p175; replace q175 := eq_true q175; have p23 : 0 ≤ ((ji18) : Int) := oD (by first | (with_reducible assumption) | assumption); have q23 : ((ji18) : Int) < ((x5_2.length : Int) : Int) := oD (by first | (with_reducible assumption) | assumption); obtain ⟨go23, co23, eo23, gb23, gl23, cl23, HG23⟩ := Kd.R_form HO_5.out (by omega); (first | cases eo23 | (injection eo23 with ea_ en_ ec_; (first | subst ea_ | (injection ea_ with ea_; subst ea_)); subst ec_; clear en_)); have GB23 := aM gb23; have GG23 := aM HG23; clear gb23 gl23 HG23; (first | simp only [add_plain] at hx175_0 | skip); obtain ⟨hx23_0, hf23_0⟩ := Kd.R_celln 0 HO_5.out ((ji18) : Int) p23 q23; replace p23 := eq_true p23; replace q23 := eq_true q23; obtain ⟨hy25_, hz25_⟩ := Kd.R_celln 0 HO_5.out ((ji18) : Int) (oD (by first | (with_reducible assumption) | assumption)) (oD (by first | (with_reducible assumption) | assumption)); have HP25 := Kd.R_putg HO_5.out ((ji18) : Int) (((rd x5_2 (ji18)) + ((t174 + x8_2) % 18446744073709551616)) % 18446744073709551616)) | ((with_reducible refine gate_store (t := 65) (p := 64) rfl ?_); refine store_event (t := 65) (p := 64) (v := ?vo_w26) (w1 := (wr.setCell ⟨go23, ((ji18) : Int).toNat, none⟩ (.int .u64 (((rd x5_2 (ji18)) + ((t174 + x8_2) % 18446744073709551616)) % 18446744073709551616)))) ?hg ?ho ?hn ?hr ?_; (case ho => rfl); (case hg => rfl); (case hn => rfl); (case hr => first | (go_simp; done) | (go_simp; rfl)); intro w26 hw; have hg : wr.grownBy w26 (some go23) := (by rw [hw]; exact HP25.2); have hp_ : Kd.R (Kd.int .u64) 65 w26 w.heap.size (fun _ => True) (.slice (some ⟨go23, 0, none⟩) x5_2.length co24) y176 := (by rw [hw, Ny176.out]; exact HP25.1); clear HP25; have n0_ := aM (hp_); have n1_ := aM ((by rw [hw]; exact bE (HB.out) GB23.out : Below w.heap.size w w26)); clear HO_5 HB; have HO_5 := n0_; have HB := n1_; clear n0_ n1_ hg hw hp_))
       go_roundg k2
       case measure => have := HK1.out; have := HK2.out; omega
       case rel => exact ⟨(y176), (IntKind.u64.wrap ((IntKind.u64.wrap (t173 + ((t174 + x8_2) / 18446744073709551616))) + (((rd x5_2 (ji18)) + ((t174 + x8_2) % 18446744073709551616)) / 18446744073709551616))), (wrap64 (x29_2 + 1)), (by first | rfl | (simp; done) | (simp only [← hji18] <;> (first | rfl | simp)) | (simp [*]; done)), (by first | rfl | (simp; done) | (simp [*]; done)), (by first | exact H' | (have h_ := H'; simp only [← hji3, ← hji18] at h_; exact h_)), ⟨by have := HK1.out; have := HK2.out; omega⟩, ⟨by apply_rules [HO_5.out, rN, rD]⟩, ⟨by apply_rules [HB.out, bA, pN, bD]⟩⟩
      ·rw [if_neg c11] at H
       have c11b0 : decide (x29_2 < (l1.length : Int)) = false := decide_eq_false c11
       clear c11
       obtain ⟨ji27, hji27⟩ : ∃ j_ : Int, (wrap64 (x22_1 + (l1.length : Int))) = j_ := ⟨_, rfl⟩
       replace H : (if 0 ≤ (ji27) then (if (ji27) < (x5_2.length : Int) then (nat_Mul.l0 k2 l1 (x5_2.set ((ji27) : Int).toNat x8_2) l0 (l0.length : Int) (wrap64 (x22_1 + 1))) else (none)) else (none)) = some r := by first | (rw [hji27] at H; exact H) | (simp only [hji27] at H ⊢; exact H)
       have hji27w : (IntKind.i64.wrap (x22_1 + (l1.length : Int))) = ji27 := (i64_w _).trans hji27
       by_cases c28 : 0 ≤ (ji27)
       rotate_left
       ·rw [if_neg c28] at H; cases H
       rw [if_pos c28] at H
       have c28b0 : decide (0 ≤ (ji27)) = true := dT c28
       clear c28
       by_cases c29 : (ji27) < (x5_2.length : Int)
       rotate_left
       ·rw [if_neg c29] at H; cases H
       rw [if_pos c29] at H
       have c29b0 : decide ((ji27) < (x5_2.length : Int)) = true := dT c29
       clear c29
       obtain ⟨y177, hy177⟩ : ∃ y_ : List Int, y_ = (x5_2.set ((ji27) : Int).toNat x8_2) := ⟨_, rfl⟩
       replace H : (nat_Mul.l0 k2 l1 y177 l0 (l0.length : Int) (wrap64 (x22_1 + 1))) = some r := by first | (rw [hy177]; exact H) | exact H
       have Ny177 := aM hy177
       clear hy177; have H' := aM H; clear H
       have p30 : 0 ≤ ((ji27) : Int) := oD (by first | (with_reducible assumption) | assumption)
       have q30 : ((ji27) : Int) < ((x5_2.length : Int) : Int) := oD (by first | (with_reducible assumption) | assumption)
       obtain ⟨go30, co30, eo30, gb30, gl30, cl30, HG30⟩ := Kd.R_form HO_5.out (by omega)
       (first | cases eo30 | (injection eo30 with ea_ en_ ec_; (first | subst ea_ | (injection ea_ with ea_; subst ea_)); subst ec_; clear en_))
       have GB30 := aM gb30
       have GG30 := aM HG30
       clear gb30 gl30 HG30
       obtain ⟨hx30_0, hf30_0⟩ := Kd.R_celln 0 HO_5.out ((ji27) : Int) p30 q30
       replace p30 := eq_true p30
       replace q30 := eq_true q30
       have HP31 := Kd.R_putg HO_5.out ((ji27) : Int) x8_2
       go_wp2_with (first | ((with_reducible refine gate_store (t := 65) (p := 75) rfl ?_); refine store_event (t := 65) (p := 75) (v := ?vo_w32) (w1 := (wr.setCell ⟨go30, ((ji27) : Int).toNat, none⟩ (.int .u64 x8_2))) ?hg ?ho ?hn ?hr ?_; (case ho => rfl); (case hg => rfl); (case hn => rfl); (case hr => first | (go_simp; done) | (go_simp; rfl)); intro w32 hw; have hg : wr.grownBy w32 (some go30) := (by rw [hw]; exact HP31.2); have hp_ : Kd.R (Kd.int .u64) 65 w32 w.heap.size (fun _ => True) (.slice (some ⟨go30, 0, none⟩) x5_2.length co30) y177 := (by rw [hw, Ny177.out]; exact HP31.1); clear HP31; have n0_ := aM (hp_); have n1_ := aM ((by rw [hw]; exact bE (HB.out) GB30.out : Below w.heap.size w w32)); clear HO_5 HB; have HO_5 := n0_; have HB := n1_; clear n0_ n1_ hg hw hp_))
       go_roundg k2
       case measure => have := HK1.out; have := HK2.out; omega
       case rel => exact ⟨(y177), (wrap64 (x22_1 + 1)), (by first | rfl | (simp; done) | (simp [*]; done)), (by first | exact H' | (have h_ := H'; simp only [← hji3, ← hji27] at h_; exact h_)), ⟨by have := HK1.out; have := HK2.out; omega⟩, ⟨by apply_rules [HO_5.out, rN, rD]⟩, ⟨by apply_rules [HB.out, bA, pN, bD]⟩⟩
   ·rw [if_neg c8] at H
    have c8b0 : decide (x22_1 < (l0.length : Int)) = false := decide_eq_false c8
    clear c8
    replace H := oB H
    obtain ⟨t168, A330, H⟩ := H
    replace H : (some t168) = some r := H
    have A33 := aM A330; clear A330
    obtain rfl := Option.some.inj H
    obtain ⟨Ao34, co34, eo34⟩ := Kd.R_slice HO_5.out
    subst eo34
    go_wp2_with (first | ((with_reducible refine gC (f := 29) rfl ?_); refine gL (some 78) rfl rfl Try.func29 (by kernel_rfl) rfl #[.slice Ao34 x5_1.length co34] rfl (by (try simp only [mA, mC, mN]); first | done | rfl | (simp only [lD, lT]; rfl)) ?_; (with_reducible refine (nat_cut.calls k1 (fun k_ => some k_ = (.slice Ao34 x5_1.length co34 : Value).ownBlock) (.slice Ao34 x5_1.length co34) x5_1 t168 w _ ?side1 ?side2 A33.out).mono ?_); (case side1 => repeat (first | (with_reducible first | exact HB.out | apply bA | apply pN | apply bD) | exact HB.out)); (case side2 => exact Kd.R_tight rfl HO_5.out); rintro e w35 ⟨v169, rfl, ho0, hb, hkp⟩; refine ⟨_, rfl, ?_⟩; have n0_ := aM (Kd.R_mono (ok' := fun k_ => True) ho0 (fun k_ hk_ => trivial)); have n1_ := aM (hb); clear HB HO_5; have HO170 := n0_; have HB := n1_; clear n0_ n1_; (try clear hb); (try clear hkp); (try clear ho0)))
    go_ret
    exact ⟨_, by first | rfl | (simp [errW_none, errW_some] <;> rfl) | (simp only [← hji3]; first | rfl | (simp [errW_none, errW_some] <;> rfl)) | (simp [*, errW_none, errW_some] <;> rfl), by (with_reducible repeat (first | apply rN | apply rD)); exact HO170.out, by apply_rules [HB.out, bA, pN, bD]⟩
def load_product.l0 : Nat → List Int → List Int → Int → Int → Option (List Int)
 | 0, _, _, _, _ => none
 | k + 1, x3, x7, x8, x9 => if x9 < x8 then (if 0 ≤ x9 then (if x9 < (x7.length : Int) then ((nat_Of.f (rd x7 x9)).bind fun t182 => ((nat_Mul.f k x3 t182).bind fun t185 => (load_product.l0 k t185 x7 x8 (wrap64 (x9 + 1))))) else (none)) else (none)) else (some x3)
def load_product.f (k : Nat) (l0 : List Int) : Option (List Int) := (nat_Of.f 1).bind fun t178 => (load_product.l0 k t178 l0 (l0.length : Int) 0)
theorem load_product.mono_l : ∀ k, (∀ y0 y1 y2 y3, LeO (load_product.l0 k y0 y1 y2 y3) (load_product.l0 (k + 1) y0 y1 y2 y3))
 | 0 => fun _ _ _ _ r h => by simp [load_product.l0] at h
 | k + 1 => by
  have ih0 := load_product.mono_l k
  ·intro y0 y1 y2 y3
   unfold load_product.l0
   repeat' first
   | (with_reducible exact ih0 _ _ _ _)
   | (with_reducible exact nat_Mul.mono _ _ _)
   | (with_reducible exact LeO.refl _)
   | (with_reducible exact LeO.none _)
   | (with_reducible refine LeO.ite ?_ ?_)
   | (with_reducible refine LeO.bind ?_ (fun _ => ?_))
theorem load_product.mono : ∀ a0 k, LeO (load_product.f k a0) (load_product.f (k + 1) a0) := by
 intro a0 k
 have ih0 := load_product.mono_l k
 unfold load_product.f
 repeat' first
   | (with_reducible exact ih0 _ _ _ _)
   | (with_reducible exact nat_Mul.mono _ _ _)
   | (with_reducible exact LeO.refl _)
   | (with_reducible exact LeO.none _)
   | (with_reducible refine LeO.ite ?_ ?_)
   | (with_reducible refine LeO.bind ?_ (fun _ => ?_))
theorem load_product.calls (k : Nat) (A0 : Option Addr) (c0 : Nat) (l0 : List Int) (r : List Int) (w : World) (hr0 : Kd.C (Kd.int .i64) w A0 l0.length l0) (hc0 : l0.length ≤ c0) (h : load_product.f k l0 = some r) :
  Calls Try.prog 21 #[.slice A0 l0.length c0] w fun e w' => ∃ v0_ : Value, e = .returned (v0_) ∧ Kd.R (Kd.int .u64) 65 w' w.heap.size (fun _ => True) v0_ r ∧ Below w.heap.size w w' := by
 have HR0 := aM hr0
 have HC0 := aM hc0
 clear hr0 hc0
 have HB := aM (Below.refl w.heap.size w)
 have H : ((nat_Of.f 1).bind fun t178 => (load_product.l0 k t178 l0 (l0.length : Int) 0)) = some r := h
 clear h
 replace H := oB H
 obtain ⟨t178, A20, H⟩ := H
 replace H : (load_product.l0 k t178 l0 (l0.length : Int) 0) = some r := H
 have A2 := aM A20; clear A20; have H' := aM H; clear H
 go_enter Try.func21, Try.ntmps21
 go_wp2_with (first | ((with_reducible refine gC (f := 27) rfl ?_); refine gL (some 6) rfl rfl Try.func27 (by kernel_rfl) rfl #[.int .i64 1] rfl (by (try simp only [mA, mC, mN]); first | done | rfl | (simp only [lD, lT]; rfl)) ?_; (with_reducible refine (nat_Of.calls 1 t178 _ A2.out).mono ?_); rintro e w3 ⟨v179, rfl, ho0, hb⟩; refine ⟨_, rfl, ?_⟩; have n0_ := aM (Kd.R_lower ho0 (bZ (by apply_rules [HB.out, bA, pN, bD]))); have n1_ := aM (bS (by apply_rules [HB.out, bA, pN, bD]) hb); clear HB; have HO180 := n0_; have HB := n1_; clear n0_ n1_; (try clear hb); (try clear hb2); (try clear hk); (try clear hi); (try clear ho0)))
 go_loopg [3, 9] k (fun kq v3 v9 w' => ∃ (x3_1 : List Int) (x9_1 : Int), v9 = .int .i64 x9_1 ∧ Aside0 (load_product.l0 kq x3_1 l0 (l0.length : Int) x9_1 = some r) ∧ Aside0 (kq ≤ k) ∧ Aside0 (Kd.R (Kd.int .u64) 65 w' w.heap.size (fun _ => True) v3 x3_1) ∧ Aside0 (Below w.heap.size w w'))
 case atStart => exact ⟨(t178), (0), (by first | rfl | (simp; done) | (simp [*]; done)), H', ⟨Nat.le_refl _⟩, ⟨by apply_rules [HO180.out, rN, rD]⟩, ⟨by apply_rules [HB.out, bA, pN, bD]⟩⟩
 case round =>
  clear H'
  try clear c2
  try clear p2
  obtain ⟨x3_1, x9_1, rfl, HA, HK1, HO_3, HB⟩ := hrel
  cases gk with
  | zero => exact absurd HA.out (by simp [load_product.l0])
  | succ k1 =>
   have H := HA.out
   clear HA
   simp only [load_product.l0] at H
   by_cases c4 : x9_1 < (l0.length : Int)
   ·rw [if_pos c4] at H
    have c4b0 : decide (x9_1 < (l0.length : Int)) = true := dT c4
    clear c4
    by_cases c5 : 0 ≤ x9_1
    rotate_left
    ·rw [if_neg c5] at H; cases H
    rw [if_pos c5] at H
    have c5b0 : decide (0 ≤ x9_1) = true := dT c5
    clear c5
    by_cases c6 : x9_1 < (l0.length : Int)
    rotate_left
    ·rw [if_neg c6] at H; cases H
    rw [if_pos c6] at H
    have c6b0 : decide (x9_1 < (l0.length : Int)) = true := dT c6
    clear c6
    replace H := oB H
    obtain ⟨t182, A70, H⟩ := H
    replace H : ((nat_Mul.f k1 x3_1 t182).bind fun t185 => (load_product.l0 k1 t185 l0 (l0.length : Int) (wrap64 (x9_1 + 1)))) = some r := H
    have A7 := aM A70; clear A70
    replace H := oB H
    obtain ⟨t185, A80, H⟩ := H
    replace H : (load_product.l0 k1 t185 l0 (l0.length : Int) (wrap64 (x9_1 + 1))) = some r := H
    have A8 := aM A80; clear A80; have H' := aM H; clear H
    have p181 : 0 ≤ (x9_1 : Int) := oD (by first | (with_reducible assumption) | assumption)
    have q181 : x9_1 < (l0.length : Int) := oD (by first | (with_reducible assumption) | assumption)
    obtain ⟨ad181, e181, hx181_0⟩ := Kd.at_int HR0.out x9_1 p181 q181
    cases e181
    replace hx181_0 := (HB.out.cell (wL w _ hx181_0)).trans hx181_0
    replace p181 := eq_true p181
    replace q181 := eq_true q181
    go_wp2_with (first | ((with_reducible refine gC (f := 27) rfl ?_); refine gL (some 15) rfl rfl Try.func27 (by kernel_rfl) rfl #[.int .i64 (rd l0 x9_1)] rfl (by (try simp only [mA, mC, mN]); first | done | rfl | (simp only [lD, lT]; rfl)) ?_; (with_reducible refine (nat_Of.calls (rd l0 x9_1) t182 _ A7.out).mono ?_); rintro e w9 ⟨v183, rfl, ho0, hb⟩; refine ⟨_, rfl, ?_⟩; have n0_ := aM (rE (by apply_rules [HO_3.out, rN, rD]) (rB ho0) hb); have n1_ := aM (Kd.R_lower (rW ho0 (rL (by apply_rules [HO_3.out, rN, rD]))) (bZ (by apply_rules [HB.out, bA, pN, bD]))); have n2_ := aM (bS (by apply_rules [HB.out, bA, pN, bD]) hb); clear HO_3 HB; have HO_3 := n0_; have HO184 := n1_; have HB := n2_; clear n0_ n1_ n2_; (try clear hb); (try clear hb2); (try clear hk); (try clear hi); (try clear ho0); obtain ⟨Ao10, co10, eo10⟩ := Kd.R_slice HO_3.out; subst eo10; obtain ⟨Ao11, co11, eo11⟩ := Kd.R_slice HO184.out; subst eo11) | ((with_reducible refine gC (f := 30) rfl ?_); refine gL (some 16) rfl rfl Try.func30 (by kernel_rfl) rfl #[.slice Ao10 x3_1.length co10, .slice Ao11 t182.length co11] rfl (by (try simp only [mA, mC, mN]); first | done | rfl | (simp only [lD, lT]; rfl)) ?_; (with_reducible refine (nat_Mul.calls k1 _ _ x3_1 _ _ t182 t185 _ ?side1 ?side2 ?side3 ?side4 A8.out).mono ?_); (case side1 => repeat (first | exact (rS HO_3.out).2.2 | (with_reducible refine cA ?_ _) | (with_reducible refine cN ?_ _) | (with_reducible refine cD ?_))); (case side2 => exact (rS HO_3.out).2.1); (case side3 => repeat (first | exact (rS HO184.out).2.2 | (with_reducible refine cA ?_ _) | (with_reducible refine cN ?_ _) | (with_reducible refine cD ?_))); (case side4 => exact (rS HO184.out).2.1); rintro e w12 ⟨v186, rfl, ho0, hb⟩; refine ⟨_, rfl, ?_⟩; have n0_ := aM (rE (by apply_rules [HO_3.out, rN, rD]) (rB ho0) hb); have n1_ := aM (rE (by apply_rules [HO184.out, rN, rD]) (rB ho0) hb); have n2_ := aM (Kd.R_lower (rW (rW ho0 (rL (by apply_rules [HO_3.out, rN, rD]))) (rL (by apply_rules [HO184.out, rN, rD]))) (bZ (by apply_rules [HB.out, bA, pN, bD]))); have n3_ := aM (bS (by apply_rules [HB.out, bA, pN, bD]) hb); clear HO_3 HO184 HB; have HO_3 := n0_; have HO184 := n1_; have HO187 := n2_; have HB := n3_; clear n0_ n1_ n2_ n3_; (try clear hb); (try clear hb2); (try clear hk); (try clear hi); (try clear ho0)))
    go_roundg k1
    case measure => have := HK1.out; omega
    case rel => exact ⟨(t185), (wrap64 (x9_1 + 1)), (by first | rfl | (simp; done) | (simp [*]; done)), H', ⟨by have := HK1.out; omega⟩, ⟨by (with_reducible repeat (first | apply rN | apply rD)); exact Kd.R_mono HO187.out (fun _ hk => trivial)⟩, ⟨by apply_rules [HB.out, bA, pN, bD]⟩⟩
   ·rw [if_neg c4] at H
    have c4b0 : decide (x9_1 < (l0.length : Int)) = false := decide_eq_false c4
    clear c4
    obtain rfl := Option.some.inj H
    go_wp2
    go_ret
    exact ⟨_, by first | rfl | (simp [errW_none, errW_some] <;> rfl) | (simp [*, errW_none, errW_some] <;> rfl), by (with_reducible repeat (first | apply rN | apply rD)); exact HO_3.out, by apply_rules [HB.out, bA, pN, bD]⟩
end Go.Proofs.Ytaoekkikpceccaa.QLoadAdmitKeepsTheLimit
