/- Lean functions that answer as Go functions of this seat do, each with its proof. Condition: the Lean function answers 'some'. -/
import Derived.Test.YtaoekkikpceccaaLx0
import Derived.Test.YtaoekkikpceccaaLx4
namespace Go.Proofs.Ytaoekkikpceccaa.QLoadAdmitKeepsTheLimit
open Go.RowKit Go.Proofs.YtaoekkikpceccaaW.PrintWords Go.Proofs.YtaoekkikpceccaaW.PrintLast Go.Proofs.YtaoekkikpceccaaW.PrintMore
attribute [local go_sem] max2_int min2_int max_two min_two
set_option linter.unusedVariables false
set_option maxHeartbeats 8000000
set_option maxRecDepth 100000
set_option linter.unusedSimpArgs false
def nat_Sub.l0 : Nat → List Int → List Int → List Int → Int → Int → Int → Option (List Int)
 | 0, _, _, _, _, _, _ => none
 | k + 1, x0, x1, x5, x6, x13, x14 => if x14 < x13 then (if x14 < (x1.length : Int) then (if 0 ≤ x14 then (if x14 < (x0.length : Int) then (if 0 ≤ (rd x0 x14) then (if 0 ≤ (rd x1 x14) then (if 0 ≤ x6 then (if x6 ≤ 1 then (if (rd x1 x14) < 18446744073709551616 then (if x14 < (x5.length : Int) then (nat_Sub.l0 k x0 x1 (x5.set (x14 : Int).toNat (((rd x0 x14) + 18446744073709551616 - (rd x1 x14) - x6) % 18446744073709551616)) (brw (rd x0 x14) (rd x1 x14) x6) x13 (wrap64 (x14 + 1))) else (none)) else (none)) else (none)) else (none)) else (none)) else (none)) else (none)) else (none)) else (if 0 ≤ x14 then (if x14 < (x0.length : Int) then (if 0 ≤ (rd x0 x14) then (if 0 ≤ x6 then (if x6 ≤ 1 then (if x14 < (x5.length : Int) then (nat_Sub.l0 k x0 x1 (x5.set (x14 : Int).toNat (((rd x0 x14) + 18446744073709551616 - x6) % 18446744073709551616)) (brw (rd x0 x14) 0 x6) x13 (wrap64 (x14 + 1))) else (none)) else (none)) else (none)) else (none)) else (none)) else (none))) else ((nat_cut.f k x5).bind fun t220 => (some t220))
def nat_Sub.f (k : Nat) (l0 : List Int) (l1 : List Int) : Option (List Int) := if 0 ≤ (l0.length : Int) then (if ((l0.length : Int) : Int).toNat ≤ 35184372088832 then (nat_Sub.l0 k l0 l1 (List.replicate ((l0.length : Int) : Int).toNat 0) 0 (l0.length : Int) 0) else (none)) else (none)
theorem nat_Sub.mono_l : ∀ k, (∀ y0 y1 y2 y3 y4 y5, LeO (nat_Sub.l0 k y0 y1 y2 y3 y4 y5) (nat_Sub.l0 (k + 1) y0 y1 y2 y3 y4 y5))
 | 0 => fun _ _ _ _ _ _ r h => by simp [nat_Sub.l0] at h
 | k + 1 => by
  have ih0 := nat_Sub.mono_l k
  ·intro y0 y1 y2 y3 y4 y5
   unfold nat_Sub.l0
   repeat' first
   | (with_reducible exact ih0 _ _ _ _ _ _)
   | (with_reducible exact nat_cut.mono _ _)
   | (with_reducible exact LeO.refl _)
   | (with_reducible exact LeO.none _)
   | (with_reducible refine LeO.ite ?_ ?_)
   | (with_reducible refine LeO.bind ?_ (fun _ => ?_))
theorem nat_Sub.mono : ∀ a0 a1 k, LeO (nat_Sub.f k a0 a1) (nat_Sub.f (k + 1) a0 a1) := by
 intro a0 a1 k
 have ih0 := nat_Sub.mono_l k
 unfold nat_Sub.f
 repeat' first
   | (with_reducible exact ih0 _ _ _ _ _ _)
   | (with_reducible exact nat_cut.mono _ _)
   | (with_reducible exact LeO.refl _)
   | (with_reducible exact LeO.none _)
   | (with_reducible refine LeO.ite ?_ ?_)
   | (with_reducible refine LeO.bind ?_ (fun _ => ?_))
theorem nat_Sub.calls (k : Nat) (A0 : Option Addr) (c0 : Nat) (l0 : List Int) (A1 : Option Addr) (c1 : Nat) (l1 : List Int) (r : List Int) (w : World) (hr0 : Kd.C (Kd.int .u64) w A0 l0.length l0) (hc0 : l0.length ≤ c0) (hr1 : Kd.C (Kd.int .u64) w A1 l1.length l1) (hc1 : l1.length ≤ c1) (h : nat_Sub.f k l0 l1 = some r) :
  Calls Try.prog 41 #[.slice A0 l0.length c0, .slice A1 l1.length c1] w fun e w' => ∃ v0_ : Value, e = .returned (v0_) ∧ Kd.R (Kd.int .u64) 65 w' w.heap.size (fun _ => True) v0_ r ∧ Below w.heap.size w w' := by
 have HR0 := aM hr0
 have HC0 := aM hc0
 clear hr0 hc0
 have HR1 := aM hr1
 have HC1 := aM hc1
 clear hr1 hc1
 have HB := aM (Below.refl w.heap.size w)
 have H : (if 0 ≤ (l0.length : Int) then (if ((l0.length : Int) : Int).toNat ≤ 35184372088832 then (nat_Sub.l0 k l0 l1 (List.replicate ((l0.length : Int) : Int).toNat 0) 0 (l0.length : Int) 0) else (none)) else (none)) = some r := h
 clear h
 by_cases c3 : 0 ≤ (l0.length : Int)
 rotate_left
 ·rw [if_neg c3] at H; cases H
 rw [if_pos c3] at H
 have c3b0 := eq_true c3
 have c3b1 : decide (0 ≤ (l0.length : Int)) = true := dT c3
 clear c3
 by_cases c4 : ((l0.length : Int) : Int).toNat ≤ 35184372088832
 rotate_left
 ·rw [if_neg c4] at H; cases H
 rw [if_pos c4] at H
 have c4b0 := eq_true c4
 have c4b1 : decide (((l0.length : Int) : Int).toNat ≤ 35184372088832) = true := dT c4
 clear c4
 obtain ⟨y212, hy212⟩ : ∃ y_ : List Int, y_ = (List.replicate ((l0.length : Int) : Int).toNat 0) := ⟨_, rfl⟩
 replace H : (nat_Sub.l0 k l0 l1 y212 0 (l0.length : Int) 0) = some r := by first | (rw [hy212]; exact H) | exact H
 have Ny212 := aM hy212
 clear hy212; have H' := aM H; clear H
 go_enter Try.func41, Try.ntmps41
 go_wp2_with (first | ((with_reducible refine gate_dst (N := 11) rfl ?_); refine Kd.R_make (Kd.int .u64) _ 65 rfl (N := 11) rfl 53 _ _ rfl (l0.length : Int) rfl rfl Try.underlying53 (.int .u64 0) 8 info65 rfl (by decide) (by omega) 0 (ok := fun _ => True) (okp := fun _ => True) rfl (fun _ hk => hk) trivial (oD (by first | (with_reducible assumption) | assumption)) (Nat.le_trans (Nat.mul_le_mul_right _ (oD (by first | (with_reducible assumption) | assumption) : (l0.length : Int).toNat ≤ 35184372088832)) (by omega)) (Below.refl _ _) (Nat.le_refl _) ?_; intro v213 w5 ho6 hb hg_ hnew_; clear hg_ hnew_; (first | rw [← Ny212.out] at ho6 | (simp only [Int.reduceToNat] at ho6; rw [← Ny212.out] at ho6)); have n0_ := aM (Kd.R_lower ho6 (bZ (by apply_rules [HB.out, bA, pN, bD]))); have n1_ := aM (bS (by apply_rules [HB.out, bA, pN, bD]) hb); clear HB; have HO214 := n0_; have HB := n1_; clear n0_ n1_ hb ho6))
 go_loopg [6, 14] k (fun kq v6 v14 w' => ∃ (x5_1 : List Int) (x6_1 : Int) (x14_1 : Int), v6 = .int .u64 x6_1 ∧ v14 = .int .i64 x14_1 ∧ Aside0 (nat_Sub.l0 kq l0 l1 x5_1 x6_1 (l0.length : Int) x14_1 = some r) ∧ Aside0 (kq ≤ k) ∧ Aside0 (Kd.R (Kd.int .u64) 65 w' w.heap.size (fun _ => True) v213 x5_1) ∧ Aside0 (Below w.heap.size w w'))
 case atStart => exact ⟨(y212), (0), (0), (by first | rfl | (simp; done) | (simp [*]; done)), (by first | rfl | (simp; done) | (simp [*]; done)), H', ⟨Nat.le_refl _⟩, ⟨by apply_rules [HO214.out, rN, rD]⟩, ⟨by apply_rules [HB.out, bA, pN, bD]⟩⟩
 case round =>
  clear H'
  try clear c1
  try clear p2
  try clear c3
  try clear c3b0
  try clear c3b1
  try clear c4
  try clear c4b0
  try clear c4b1
  obtain ⟨x5_1, x6_1, x14_1, rfl, rfl, HA, HK1, HO_5, HB⟩ := hrel
  cases gk with
  | zero => exact absurd HA.out (by simp [nat_Sub.l0])
  | succ k1 =>
   have H := HA.out
   clear HA
   simp only [nat_Sub.l0] at H
   by_cases c7 : x14_1 < (l0.length : Int)
   ·rw [if_pos c7] at H
    have c7b0 : decide (x14_1 < (l0.length : Int)) = true := dT c7
    clear c7
    by_cases c8 : x14_1 < (l1.length : Int)
    ·rw [if_pos c8] at H
     have c8b0 : decide (x14_1 < (l1.length : Int)) = true := dT c8
     clear c8
     by_cases c9 : 0 ≤ x14_1
     rotate_left
     ·rw [if_neg c9] at H; cases H
     rw [if_pos c9] at H
     have c9b0 : decide (0 ≤ x14_1) = true := dT c9
     clear c9
     by_cases c10 : x14_1 < (l0.length : Int)
     rotate_left
     ·rw [if_neg c10] at H; cases H
     rw [if_pos c10] at H
     have c10b0 : decide (x14_1 < (l0.length : Int)) = true := dT c10
     clear c10
     by_cases c11 : 0 ≤ (rd l0 x14_1)
     rotate_left
     ·rw [if_neg c11] at H; cases H
     rw [if_pos c11] at H
     have c11b0 := eq_true c11
     have c11b1 : decide (0 ≤ (rd l0 x14_1)) = true := dT c11
     clear c11
     by_cases c12 : 0 ≤ (rd l1 x14_1)
     rotate_left
     ·rw [if_neg c12] at H; cases H
     rw [if_pos c12] at H
     have c12b0 := eq_true c12
     have c12b1 : decide (0 ≤ (rd l1 x14_1)) = true := dT c12
     clear c12
     by_cases c13 : 0 ≤ x6_1
     rotate_left
     ·rw [if_neg c13] at H; cases H
     rw [if_pos c13] at H
     have c13b0 := eq_true c13
     have c13b1 : decide (0 ≤ x6_1) = true := dT c13
     clear c13
     by_cases c14 : x6_1 ≤ 1
     rotate_left
     ·rw [if_neg c14] at H; cases H
     rw [if_pos c14] at H
     have c14b0 := eq_true c14
     have c14b1 : decide (x6_1 ≤ 1) = true := dT c14
     clear c14
     by_cases c15 : (rd l1 x14_1) < 18446744073709551616
     rotate_left
     ·rw [if_neg c15] at H; cases H
     rw [if_pos c15] at H
     have c15b0 := eq_true c15
     have c15b1 : decide ((rd l1 x14_1) < 18446744073709551616) = true := dT c15
     clear c15
     have hx16 := fun w_ => call_sub64_44 (rd l0 x14_1) (rd l1 x14_1) x6_1 (oD (by first | decide | (with_reducible assumption) | assumption | (simp only [decide_eq_true_eq]; omega))) (oD (by first | decide | (with_reducible assumption) | assumption | (simp only [decide_eq_true_eq]; omega))) (oD (by first | decide | (with_reducible assumption) | assumption | (simp only [decide_eq_true_eq]; omega))) (oD (by first | decide | (with_reducible assumption) | assumption | (simp only [decide_eq_true_eq]; omega))) (oD (by first | decide | (with_reducible assumption) | assumption | (simp only [decide_eq_true_eq]; omega))) w_
     by_cases c17 : x14_1 < (x5_1.length : Int)
     rotate_left
     ·rw [if_neg c17] at H; cases H
     rw [if_pos c17] at H
     have c17b0 : decide (x14_1 < (x5_1.length : Int)) = true := dT c17
     clear c17
     obtain ⟨y217, hy217⟩ : ∃ y_ : List Int, y_ = (x5_1.set (x14_1 : Int).toNat (((rd l0 x14_1) + 18446744073709551616 - (rd l1 x14_1) - x6_1) % 18446744073709551616)) := ⟨_, rfl⟩
     replace H : (nat_Sub.l0 k1 l0 l1 y217 (brw (rd l0 x14_1) (rd l1 x14_1) x6_1) (l0.length : Int) (wrap64 (x14_1 + 1))) = some r := by first | (rw [hy217]; exact H) | exact H
     have Ny217 := aM hy217
     clear hy217; have H' := aM H; clear H
     have p215 : 0 ≤ (x14_1 : Int) := oD (by first | (with_reducible assumption) | assumption)
     have q215 : x14_1 < (l1.length : Int) := oD (by first | (with_reducible assumption) | assumption)
     obtain ⟨ad215, e215, hx215_0⟩ := Kd.at_int HR1.out x14_1 p215 q215
     cases e215
     replace hx215_0 := (HB.out.cell (wL w _ hx215_0)).trans hx215_0
     replace p215 := eq_true p215
     replace q215 := eq_true q215
     have p216 : 0 ≤ (x14_1 : Int) := oD (by first | (with_reducible assumption) | assumption)
     have q216 : x14_1 < (l0.length : Int) := oD (by first | (with_reducible assumption) | assumption)
     obtain ⟨ad216, e216, hx216_0⟩ := Kd.at_int HR0.out x14_1 p216 q216
     cases e216
     replace hx216_0 := (HB.out.cell (wL w _ hx216_0)).trans hx216_0
     replace p216 := eq_true p216
     replace q216 := eq_true q216
     have p18 : 0 ≤ (x14_1 : Int) := oD (by first | (with_reducible assumption) | assumption)
     have q18 : (x14_1 : Int) < ((x5_1.length : Int) : Int) := oD (by first | (with_reducible assumption) | assumption)
     obtain ⟨go18, co18, eo18, gb18, gl18, cl18, HG18⟩ := Kd.R_form HO_5.out (by omega)
     (first | cases eo18 | (injection eo18 with ea_ en_ ec_; (first | subst ea_ | (injection ea_ with ea_; subst ea_)); subst ec_; clear en_))
     have GB18 := aM gb18
     have GG18 := aM HG18
     clear gb18 gl18 HG18
     obtain ⟨hx18_0, hf18_0⟩ := Kd.R_celln 0 HO_5.out (x14_1 : Int) p18 q18
     replace p18 := eq_true p18
     replace q18 := eq_true q18
     have HP19 := Kd.R_putg HO_5.out (x14_1 : Int) (((rd l0 x14_1) + 18446744073709551616 - (rd l1 x14_1) - x6_1) % 18446744073709551616)
     go_wp2_with (first | ((with_reducible refine gate_store (t := 65) (p := 37) rfl ?_); refine store_event (t := 65) (p := 37) (v := ?vo_w20) (w1 := (wr.setCell ⟨go18, (x14_1 : Int).toNat, none⟩ (.int .u64 (((rd l0 x14_1) + 18446744073709551616 - (rd l1 x14_1) - x6_1) % 18446744073709551616)))) ?hg ?ho ?hn ?hr ?_; (case ho => rfl); (case hg => rfl); (case hn => rfl); (case hr => first | (go_simp; done) | (go_simp; rfl)); intro w20 hw; have hg : wr.grownBy w20 (some go18) := (by rw [hw]; exact HP19.2); have hp_ : Kd.R (Kd.int .u64) 65 w20 w.heap.size (fun _ => True) (.slice (some ⟨go18, 0, none⟩) x5_1.length co18) y217 := (by rw [hw, Ny217.out]; exact HP19.1); clear HP19; have n0_ := aM (hp_); have n1_ := aM ((by rw [hw]; exact bE (HB.out) GB18.out : Below w.heap.size w w20)); clear HO_5 HB; have HO_5 := n0_; have HB := n1_; clear n0_ n1_ hg hw hp_))
     go_roundg k1
     case measure => have := HK1.out; omega
     case rel => exact ⟨(y217), (brw (rd l0 x14_1) (rd l1 x14_1) x6_1), (wrap64 (x14_1 + 1)), (by first | rfl | (simp; done) | (simp [*]; done)), (by first | rfl | (simp; done) | (simp [*]; done)), H', ⟨by have := HK1.out; omega⟩, ⟨by apply_rules [HO_5.out, rN, rD]⟩, ⟨by apply_rules [HB.out, bA, pN, bD]⟩⟩
    ·rw [if_neg c8] at H
     have c8b0 : decide (x14_1 < (l1.length : Int)) = false := decide_eq_false c8
     clear c8
     by_cases c21 : 0 ≤ x14_1
     rotate_left
     ·rw [if_neg c21] at H; cases H
     rw [if_pos c21] at H
     have c21b0 : decide (0 ≤ x14_1) = true := dT c21
     clear c21
     by_cases c22 : x14_1 < (l0.length : Int)
     rotate_left
     ·rw [if_neg c22] at H; cases H
     rw [if_pos c22] at H
     have c22b0 : decide (x14_1 < (l0.length : Int)) = true := dT c22
     clear c22
     by_cases c23 : 0 ≤ (rd l0 x14_1)
     rotate_left
     ·rw [if_neg c23] at H; cases H
     rw [if_pos c23] at H
     have c23b0 := eq_true c23
     have c23b1 : decide (0 ≤ (rd l0 x14_1)) = true := dT c23
     clear c23
     by_cases c24 : 0 ≤ x6_1
     rotate_left
     ·rw [if_neg c24] at H; cases H
     rw [if_pos c24] at H
     have c24b0 := eq_true c24
     have c24b1 : decide (0 ≤ x6_1) = true := dT c24
     clear c24
     by_cases c25 : x6_1 ≤ 1
     rotate_left
     ·rw [if_neg c25] at H; cases H
     rw [if_pos c25] at H
     have c25b0 := eq_true c25
     have c25b1 : decide (x6_1 ≤ 1) = true := dT c25
     clear c25
     have hx26 := fun w_ => call_sub64_44 (rd l0 x14_1) 0 x6_1 (oD (by first | decide | (with_reducible assumption) | assumption | (simp only [decide_eq_true_eq]; omega))) (oD (by first | decide | (with_reducible assumption) | assumption | (simp only [decide_eq_true_eq]; omega))) (oD (by first | decide | (with_reducible assumption) | assumption | (simp only [decide_eq_true_eq]; omega))) (oD (by first | decide | (with_reducible assumption) | assumption | (simp only [decide_eq_true_eq]; omega))) (oD (by first | decide | (with_reducible assumption) | assumption | (simp only [decide_eq_true_eq]; omega))) w_
     by_cases c27 : x14_1 < (x5_1.length : Int)
     rotate_left
     ·rw [if_neg c27] at H; cases H
     rw [if_pos c27] at H
     have c27b0 : decide (x14_1 < (x5_1.length : Int)) = true := dT c27
     clear c27
     obtain ⟨y219, hy219⟩ : ∃ y_ : List Int, y_ = (x5_1.set (x14_1 : Int).toNat (((rd l0 x14_1) + 18446744073709551616 - x6_1) % 18446744073709551616)) := ⟨_, rfl⟩
     replace H : (nat_Sub.l0 k1 l0 l1 y219 (brw (rd l0 x14_1) 0 x6_1) (l0.length : Int) (wrap64 (x14_1 + 1))) = some r := by first | (rw [hy219]; exact H) | exact H
     have Ny219 := aM hy219
     clear hy219; have H' := aM H; clear H
     have p218 : 0 ≤ (x14_1 : Int) := oD (by first | (with_reducible assumption) | assumption)
     have q218 : x14_1 < (l0.length : Int) := oD (by first | (with_reducible assumption) | assumption)
     obtain ⟨ad218, e218, hx218_0⟩ := Kd.at_int HR0.out x14_1 p218 q218
     cases e218
     replace hx218_0 := (HB.out.cell (wL w _ hx218_0)).trans hx218_0
     replace p218 := eq_true p218
     replace q218 := eq_true q218
     have p28 : 0 ≤ (x14_1 : Int) := oD (by first | (with_reducible assumption) | assumption)
     have q28 : (x14_1 : Int) < ((x5_1.length : Int) : Int) := oD (by first | (with_reducible assumption) | assumption)
     obtain ⟨go28, co28, eo28, gb28, gl28, cl28, HG28⟩ := Kd.R_form HO_5.out (by omega)
     (first | cases eo28 | (injection eo28 with ea_ en_ ec_; (first | subst ea_ | (injection ea_ with ea_; subst ea_)); subst ec_; clear en_))
     have GB28 := aM gb28
     have GG28 := aM HG28
     clear gb28 gl28 HG28
     obtain ⟨hx28_0, hf28_0⟩ := Kd.R_celln 0 HO_5.out (x14_1 : Int) p28 q28
     replace p28 := eq_true p28
     replace q28 := eq_true q28
     have HP29 := Kd.R_putg HO_5.out (x14_1 : Int) (((rd l0 x14_1) + 18446744073709551616 - x6_1) % 18446744073709551616)
     go_wp2_with (first | ((with_reducible refine gate_store (t := 65) (p := 37) rfl ?_); refine store_event (t := 65) (p := 37) (v := ?vo_w30) (w1 := (wr.setCell ⟨go28, (x14_1 : Int).toNat, none⟩ (.int .u64 (((rd l0 x14_1) + 18446744073709551616 - x6_1) % 18446744073709551616)))) ?hg ?ho ?hn ?hr ?_; (case ho => rfl); (case hg => rfl); (case hn => rfl); (case hr => first | (go_simp; done) | (go_simp; rfl)); intro w30 hw; have hg : wr.grownBy w30 (some go28) := (by rw [hw]; exact HP29.2); have hp_ : Kd.R (Kd.int .u64) 65 w30 w.heap.size (fun _ => True) (.slice (some ⟨go28, 0, none⟩) x5_1.length co28) y219 := (by rw [hw, Ny219.out]; exact HP29.1); clear HP29; have n0_ := aM (hp_); have n1_ := aM ((by rw [hw]; exact bE (HB.out) GB28.out : Below w.heap.size w w30)); clear HO_5 HB; have HO_5 := n0_; have HB := n1_; clear n0_ n1_ hg hw hp_))
     go_roundg k1
     case measure => have := HK1.out; omega
     case rel => exact ⟨(y219), (brw (rd l0 x14_1) 0 x6_1), (wrap64 (x14_1 + 1)), (by first | rfl | (simp; done) | (simp [*]; done)), (by first | rfl | (simp; done) | (simp [*]; done)), H', ⟨by have := HK1.out; omega⟩, ⟨by apply_rules [HO_5.out, rN, rD]⟩, ⟨by apply_rules [HB.out, bA, pN, bD]⟩⟩
   ·rw [if_neg c7] at H
    have c7b0 : decide (x14_1 < (l0.length : Int)) = false := decide_eq_false c7
    clear c7
    replace H := oB H
    obtain ⟨t220, A310, H⟩ := H
    replace H : (some t220) = some r := H
    have A31 := aM A310; clear A310
    obtain rfl := Option.some.inj H
    obtain ⟨Ao32, co32, eo32⟩ := Kd.R_slice HO_5.out
    subst eo32
    go_wp2_with (first | ((with_reducible refine gC (f := 29) rfl ?_); refine gL (some 40) rfl rfl Try.func29 (by kernel_rfl) rfl #[.slice Ao32 x5_1.length co32] rfl (by (try simp only [mA, mC, mN]); first | done | rfl | (simp only [lD, lT]; rfl)) ?_; (with_reducible refine (nat_cut.calls k1 (fun k_ => some k_ = (.slice Ao32 x5_1.length co32 : Value).ownBlock) (.slice Ao32 x5_1.length co32) x5_1 t220 w _ ?side1 ?side2 A31.out).mono ?_); (case side1 => repeat (first | (with_reducible first | exact HB.out | apply bA | apply pN | apply bD) | exact HB.out)); (case side2 => exact Kd.R_tight rfl HO_5.out); rintro e w33 ⟨v221, rfl, ho0, hb, hkp⟩; refine ⟨_, rfl, ?_⟩; have n0_ := aM (Kd.R_mono (ok' := fun k_ => True) ho0 (fun k_ hk_ => trivial)); have n1_ := aM (hb); clear HB HO_5; have HO222 := n0_; have HB := n1_; clear n0_ n1_; (try clear hb); (try clear hkp); (try clear ho0)))
    go_ret
    exact ⟨_, by first | rfl | (simp [errW_none, errW_some] <;> rfl) | (simp [*, errW_none, errW_some] <;> rfl), by (with_reducible repeat (first | apply rN | apply rD)); exact HO222.out, by apply_rules [HB.out, bA, pN, bD]⟩
end Go.Proofs.Ytaoekkikpceccaa.QLoadAdmitKeepsTheLimit
