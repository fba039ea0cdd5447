/- Lean functions that answer as Go functions of this seat do, each with its proof. Condition: the Lean function answers 'some'. -/
import Derived.Test.YtaoekkikpceccaaLx0
import Derived.Test.YtaoekkikpceccaaLx4
namespace Go.Proofs.Ytaoekkikpceccaa.QLoadAdmitKeepsTheLimit
open Go.RowKit Go.Proofs.YtaoekkikpceccaaW.PrintWords Go.Proofs.YtaoekkikpceccaaW.PrintLast Go.Proofs.YtaoekkikpceccaaW.PrintMore
attribute [local go_sem] max2_int min2_int max_two min_two
set_option linter.unusedVariables false
set_option maxHeartbeats 8000000
set_option maxRecDepth 100000
set_option linter.unusedSimpArgs false
mutual
def nat_Add.l0 : Nat → List Int → List Int → List Int → Int → Int → Int → Option (List Int)
 | 0, _, _, _, _, _, _ => none
 | k + 1, x0, x1, x5, x6, x21, x22 => if x22 < x21 then (if x22 < (x1.length : Int) then (if 0 ≤ x22 then (if x22 < (x0.length : Int) then (if 0 ≤ (rd x0 x22) then (if 0 ≤ (rd x1 x22) then (if 0 ≤ x6 then (if x6 ≤ 1 then (if x22 < (x5.length : Int) then (nat_Add.l0 k x0 x1 (x5.set (x22 : Int).toNat (((rd x0 x22) + (rd x1 x22) + x6) % 18446744073709551616)) (((rd x0 x22) + (rd x1 x22) + x6) / 18446744073709551616) x21 (wrap64 (x22 + 1))) else (none)) else (none)) else (none)) else (none)) else (none)) else (none)) else (none)) else (if 0 ≤ x22 then (if x22 < (x0.length : Int) then (if 0 ≤ (rd x0 x22) then (if 0 ≤ x6 then (if x6 ≤ 1 then (if x22 < (x5.length : Int) then (nat_Add.l0 k x0 x1 (x5.set (x22 : Int).toNat (((rd x0 x22) + x6) % 18446744073709551616)) (((rd x0 x22) + x6) / 18446744073709551616) x21 (wrap64 (x22 + 1))) else (none)) else (none)) else (none)) else (none)) else (none)) else (none))) else (if 0 ≤ (x0.length : Int) then (if (x0.length : Int) < (x5.length : Int) then ((nat_cut.f k (x5.set ((x0.length : Int) : Int).toNat x6)).bind fun t147 => (some t147)) else (none)) else (none))
def nat_Add.l100 : Nat → List Int → List Int → List Int → Int → Int → Int → Option (List Int)
 | 0, _, _, _, _, _, _ => none
 | k + 1, x0, x1, x5, x6, x21, x22 => if x22 < x21 then (if x22 < (x1.length : Int) then (if 0 ≤ x22 then (if x22 < (x0.length : Int) then (if 0 ≤ (rd x0 x22) then (if 0 ≤ (rd x1 x22) then (if 0 ≤ x6 then (if x6 ≤ 1 then (if x22 < (x5.length : Int) then (nat_Add.l100 k x0 x1 (x5.set (x22 : Int).toNat (((rd x0 x22) + (rd x1 x22) + x6) % 18446744073709551616)) (((rd x0 x22) + (rd x1 x22) + x6) / 18446744073709551616) x21 (wrap64 (x22 + 1))) else (none)) else (none)) else (none)) else (none)) else (none)) else (none)) else (none)) else (if 0 ≤ x22 then (if x22 < (x0.length : Int) then (if 0 ≤ (rd x0 x22) then (if 0 ≤ x6 then (if x6 ≤ 1 then (if x22 < (x5.length : Int) then (nat_Add.l100 k x0 x1 (x5.set (x22 : Int).toNat (((rd x0 x22) + x6) % 18446744073709551616)) (((rd x0 x22) + x6) / 18446744073709551616) x21 (wrap64 (x22 + 1))) else (none)) else (none)) else (none)) else (none)) else (none)) else (none))) else (if 0 ≤ (x0.length : Int) then (if (x0.length : Int) < (x5.length : Int) then ((nat_cut.f k (x5.set ((x0.length : Int) : Int).toNat x6)).bind fun t159 => (some t159)) else (none)) else (none))
end
def nat_Add.f (k : Nat) (l0 : List Int) (l1 : List Int) : Option (List Int) := if (l0.length : Int) < (l1.length : Int) then (if 0 ≤ (wrap64 ((l1.length : Int) + 1)) then (if (wrap64 ((l1.length : Int) + 1) : Int).toNat ≤ 35184372088832 then (nat_Add.l0 k l1 l0 (List.replicate (wrap64 ((l1.length : Int) + 1) : Int).toNat 0) 0 (l1.length : Int) 0) else (none)) else (none)) else (if 0 ≤ (wrap64 ((l0.length : Int) + 1)) then (if (wrap64 ((l0.length : Int) + 1) : Int).toNat ≤ 35184372088832 then (nat_Add.l100 k l0 l1 (List.replicate (wrap64 ((l0.length : Int) + 1) : Int).toNat 0) 0 (l0.length : Int) 0) else (none)) else (none))
theorem nat_Add.mono_l : ∀ k, (∀ y0 y1 y2 y3 y4 y5, LeO (nat_Add.l0 k y0 y1 y2 y3 y4 y5) (nat_Add.l0 (k + 1) y0 y1 y2 y3 y4 y5)) ∧ (∀ y0 y1 y2 y3 y4 y5, LeO (nat_Add.l100 k y0 y1 y2 y3 y4 y5) (nat_Add.l100 (k + 1) y0 y1 y2 y3 y4 y5))
 | 0 => ⟨fun _ _ _ _ _ _ r h => by simp [nat_Add.l0] at h, fun _ _ _ _ _ _ r h => by simp [nat_Add.l100] at h⟩
 | k + 1 => by
  obtain ⟨ih0, ih1⟩ := nat_Add.mono_l k
  refine ⟨?_, ?_⟩
  ·intro y0 y1 y2 y3 y4 y5
   unfold nat_Add.l0
   repeat' first
   | (with_reducible exact ih0 _ _ _ _ _ _)
   | (with_reducible exact ih1 _ _ _ _ _ _)
   | (with_reducible exact nat_cut.mono _ _)
   | (with_reducible exact LeO.refl _)
   | (with_reducible exact LeO.none _)
   | (with_reducible refine LeO.ite ?_ ?_)
   | (with_reducible refine LeO.bind ?_ (fun _ => ?_))
  ·intro y0 y1 y2 y3 y4 y5
   unfold nat_Add.l100
   repeat' first
   | (with_reducible exact ih0 _ _ _ _ _ _)
   | (with_reducible exact ih1 _ _ _ _ _ _)
   | (with_reducible exact nat_cut.mono _ _)
   | (with_reducible exact LeO.refl _)
   | (with_reducible exact LeO.none _)
   | (with_reducible refine LeO.ite ?_ ?_)
   | (with_reducible refine LeO.bind ?_ (fun _ => ?_))
theorem nat_Add.mono : ∀ a0 a1 k, LeO (nat_Add.f k a0 a1) (nat_Add.f (k + 1) a0 a1) := by
 intro a0 a1 k
 obtain ⟨ih0, ih1⟩ := nat_Add.mono_l k
 unfold nat_Add.f
 repeat' first
   | (with_reducible exact ih0 _ _ _ _ _ _)
   | (with_reducible exact ih1 _ _ _ _ _ _)
   | (with_reducible exact nat_cut.mono _ _)
   | (with_reducible exact LeO.refl _)
   | (with_reducible exact LeO.none _)
   | (with_reducible refine LeO.ite ?_ ?_)
   | (with_reducible refine LeO.bind ?_ (fun _ => ?_))
theorem nat_Add.calls (k : Nat) (A0 : Option Addr) (c0 : Nat) (l0 : List Int) (A1 : Option Addr) (c1 : Nat) (l1 : List Int) (r : List Int) (w : World) (hr0 : Kd.C (Kd.int .u64) w A0 l0.length l0) (hc0 : l0.length ≤ c0) (hr1 : Kd.C (Kd.int .u64) w A1 l1.length l1) (hc1 : l1.length ≤ c1) (h : nat_Add.f k l0 l1 = some r) :
  Calls Try.prog 20 #[.slice A0 l0.length c0, .slice A1 l1.length c1] w fun e w' => ∃ v0_ : Value, e = .returned (v0_) ∧ Kd.R (Kd.int .u64) 65 w' w.heap.size (fun _ => True) v0_ r ∧ Below w.heap.size w w' := by
 have HR0 := aM hr0
 have HC0 := aM hc0
 clear hr0 hc0
 have HR1 := aM hr1
 have HC1 := aM hc1
 clear hr1 hc1
 have HB := aM (Below.refl w.heap.size w)
 have H : (if (l0.length : Int) < (l1.length : Int) then (if 0 ≤ (wrap64 ((l1.length : Int) + 1)) then (if (wrap64 ((l1.length : Int) + 1) : Int).toNat ≤ 35184372088832 then (nat_Add.l0 k l1 l0 (List.replicate (wrap64 ((l1.length : Int) + 1) : Int).toNat 0) 0 (l1.length : Int) 0) else (none)) else (none)) else (if 0 ≤ (wrap64 ((l0.length : Int) + 1)) then (if (wrap64 ((l0.length : Int) + 1) : Int).toNat ≤ 35184372088832 then (nat_Add.l100 k l0 l1 (List.replicate (wrap64 ((l0.length : Int) + 1) : Int).toNat 0) 0 (l0.length : Int) 0) else (none)) else (none))) = some r := h
 clear h
 by_cases c3 : (l0.length : Int) < (l1.length : Int)
 ·rw [if_pos c3] at H
  have c3b0 : decide ((l0.length : Int) < (l1.length : Int)) = true := dT c3
  have c3b1 : decide (l0.length < l1.length) = true := dT (Int.ofNat_lt.mp c3)
  clear c3
  obtain ⟨ji4, hji4⟩ : ∃ j_ : Int, (wrap64 ((l1.length : Int) + 1)) = j_ := ⟨_, rfl⟩
  replace H : (if 0 ≤ (ji4) then (if (ji4 : Int).toNat ≤ 35184372088832 then (nat_Add.l0 k l1 l0 (List.replicate (ji4 : Int).toNat 0) 0 (l1.length : Int) 0) else (none)) else (none)) = some r := by first | (rw [hji4] at H; exact H) | (simp only [hji4] at H ⊢; exact H)
  have hji4w : (IntKind.i64.wrap ((l1.length : Int) + 1)) = ji4 := (i64_w _).trans hji4
  by_cases c5 : 0 ≤ (ji4)
  rotate_left
  ·rw [if_neg c5] at H; cases H
  rw [if_pos c5] at H
  have c5b0 := eq_true c5
  have c5b1 : decide (0 ≤ (ji4)) = true := dT c5
  clear c5
  by_cases c6 : (ji4 : Int).toNat ≤ 35184372088832
  rotate_left
  ·rw [if_neg c6] at H; cases H
  rw [if_pos c6] at H
  have c6b0 := eq_true c6
  have c6b1 : decide ((ji4 : Int).toNat ≤ 35184372088832) = true := dT c6
  clear c6
  obtain ⟨y138, hy138⟩ : ∃ y_ : List Int, y_ = (List.replicate (ji4 : Int).toNat 0) := ⟨_, rfl⟩
  replace H : (nat_Add.l0 k l1 l0 y138 0 (l1.length : Int) 0) = some r := by first | (rw [hy138]; exact H) | exact H
  have Ny138 := aM hy138
  clear hy138; have H' := aM H; clear H
  go_enter Try.func20, Try.ntmps20
  go_wp2_with (first | ((with_reducible refine gate_dst (N := 19) rfl ?_); refine Kd.R_make (Kd.int .u64) _ 65 rfl (N := 19) rfl 53 _ _ rfl ji4 rfl rfl Try.underlying53 (.int .u64 0) 8 info65 rfl (by decide) (by omega) 0 (ok := fun _ => True) (okp := fun _ => True) rfl (fun _ hk => hk) trivial (oD (by first | (with_reducible assumption) | assumption)) (Nat.le_trans (Nat.mul_le_mul_right _ (oD (by first | (with_reducible assumption) | assumption) : ji4.toNat ≤ 35184372088832)) (by omega)) (Below.refl _ _) (Nat.le_refl _) ?_; intro v139 w7 ho8 hb hg_ hnew_; clear hg_ hnew_; (first | rw [← Ny138.out] at ho8 | (simp only [Int.reduceToNat] at ho8; rw [← Ny138.out] at ho8)); have n0_ := aM (Kd.R_lower ho8 (bZ (by apply_rules [HB.out, bA, pN, bD]))); have n1_ := aM (bS (by apply_rules [HB.out, bA, pN, bD]) hb); clear HB; have HO140 := n0_; have HB := n1_; clear n0_ n1_ hb ho8))
  go_loopg [6, 22] k (fun kq v6 v22 w' => ∃ (x5_1 : List Int) (x6_1 : Int) (x22_1 : Int), v6 = .int .u64 x6_1 ∧ v22 = .int .i64 x22_1 ∧ Aside0 (nat_Add.l0 kq l1 l0 x5_1 x6_1 (l1.length : Int) x22_1 = some r) ∧ Aside0 (kq ≤ k) ∧ Aside0 (Kd.R (Kd.int .u64) 65 w' w.heap.size (fun _ => True) v139 x5_1) ∧ Aside0 (Below w.heap.size w w'))
  case atStart => exact ⟨(y138), (0), (0), (by first | rfl | (simp; done) | (simp [*]; done)), (by first | rfl | (simp; done) | (simp [*]; done)), H', ⟨Nat.le_refl _⟩, ⟨by apply_rules [HO140.out, rN, rD]⟩, ⟨by apply_rules [HB.out, bA, pN, bD]⟩⟩
  case round =>
   clear H'
   try clear c1
   try clear c2
   try clear p2
   try clear c3
   try clear c3b0
   try clear c3b1
   try clear c5
   try clear c5b0
   try clear c5b1
   try clear c6
   try clear c6b0
   try clear c6b1
   try clear p6
   obtain ⟨x5_1, x6_1, x22_1, rfl, rfl, HA, HK1, HO_5, HB⟩ := hrel
   cases gk with
   | zero => exact absurd HA.out (by simp [nat_Add.l0])
   | succ k1 =>
    have H := HA.out
    clear HA
    simp only [nat_Add.l0] at H
    by_cases c9 : x22_1 < (l1.length : Int)
    ·rw [if_pos c9] at H
     have c9b0 : decide (x22_1 < (l1.length : Int)) = true := dT c9
     clear c9
     by_cases c10 : x22_1 < (l0.length : Int)
     ·rw [if_pos c10] at H
      have c10b0 : decide (x22_1 < (l0.length : Int)) = true := dT c10
      clear c10
      by_cases c11 : 0 ≤ x22_1
      rotate_left
      ·rw [if_neg c11] at H; cases H
      rw [if_pos c11] at H
      have c11b0 : decide (0 ≤ x22_1) = true := dT c11
      clear c11
      by_cases c12 : x22_1 < (l1.length : Int)
      rotate_left
      ·rw [if_neg c12] at H; cases H
      rw [if_pos c12] at H
      have c12b0 : decide (x22_1 < (l1.length : Int)) = true := dT c12
      clear c12
      by_cases c13 : 0 ≤ (rd l1 x22_1)
      rotate_left
      ·rw [if_neg c13] at H; cases H
      rw [if_pos c13] at H
      have c13b0 := eq_true c13
      have c13b1 : decide (0 ≤ (rd l1 x22_1)) = true := dT c13
      clear c13
      by_cases c14 : 0 ≤ (rd l0 x22_1)
      rotate_left
      ·rw [if_neg c14] at H; cases H
      rw [if_pos c14] at H
      have c14b0 := eq_true c14
      have c14b1 : decide (0 ≤ (rd l0 x22_1)) = true := dT c14
      clear c14
      by_cases c15 : 0 ≤ x6_1
      rotate_left
      ·rw [if_neg c15] at H; cases H
      rw [if_pos c15] at H
      have c15b0 := eq_true c15
      have c15b1 : decide (0 ≤ x6_1) = true := dT c15
      clear c15
      by_cases c16 : x6_1 ≤ 1
      rotate_left
      ·rw [if_neg c16] at H; cases H
      rw [if_pos c16] at H
      have c16b0 := eq_true c16
      have c16b1 : decide (x6_1 ≤ 1) = true := dT c16
      clear c16
      have hx17 := fun w_ => call_add64_28 (rd l1 x22_1) (rd l0 x22_1) x6_1 (oD (by first | decide | (with_reducible assumption) | assumption | (simp only [decide_eq_true_eq]; omega))) (oD (by first | decide | (with_reducible assumption) | assumption | (simp only [decide_eq_true_eq]; omega))) (oD (by first | decide | (with_reducible assumption) | assumption | (simp only [decide_eq_true_eq]; omega))) (oD (by first | decide | (with_reducible assumption) | assumption | (simp only [decide_eq_true_eq]; omega))) w_
      by_cases c18 : x22_1 < (x5_1.length : Int)
      rotate_left
      ·rw [if_neg c18] at H; cases H
      rw [if_pos c18] at H
      have c18b0 : decide (x22_1 < (x5_1.length : Int)) = true := dT c18
      clear c18
      obtain ⟨y143, hy143⟩ : ∃ y_ : List Int, y_ = (x5_1.set (x22_1 : Int).toNat (((rd l1 x22_1) + (rd l0 x22_1) + x6_1) % 18446744073709551616)) := ⟨_, rfl⟩
      replace H : (nat_Add.l0 k1 l1 l0 y143 (((rd l1 x22_1) + (rd l0 x22_1) + x6_1) / 18446744073709551616) (l1.length : Int) (wrap64 (x22_1 + 1))) = some r := by first | (rw [hy143]; exact H) | exact H
      have Ny143 := aM hy143
      clear hy143; have H' := aM H; clear H
      have p141 : 0 ≤ (x22_1 : Int) := oD (by first | (with_reducible assumption) | assumption)
      have q141 : x22_1 < (l0.length : Int) := oD (by first | (with_reducible assumption) | assumption)
      obtain ⟨ad141, e141, hx141_0⟩ := Kd.at_int HR0.out x22_1 p141 q141
      cases e141
      replace hx141_0 := (HB.out.cell (wL w _ hx141_0)).trans hx141_0
      replace p141 := eq_true p141
      replace q141 := eq_true q141
      have p142 : 0 ≤ (x22_1 : Int) := oD (by first | (with_reducible assumption) | assumption)
      have q142 : x22_1 < (l1.length : Int) := oD (by first | (with_reducible assumption) | assumption)
      obtain ⟨ad142, e142, hx142_0⟩ := Kd.at_int HR1.out x22_1 p142 q142
      cases e142
      replace hx142_0 := (HB.out.cell (wL w _ hx142_0)).trans hx142_0
      replace p142 := eq_true p142
      replace q142 := eq_true q142
      have p19 : 0 ≤ (x22_1 : Int) := oD (by first | (with_reducible assumption) | assumption)
      have q19 : (x22_1 : Int) < ((x5_1.length : Int) : Int) := oD (by first | (with_reducible assumption) | assumption)
      obtain ⟨go19, co19, eo19, gb19, gl19, cl19, HG19⟩ := Kd.R_form HO_5.out (by omega)
      (first | cases eo19 | (injection eo19 with ea_ en_ ec_; (first | subst ea_ | (injection ea_ with ea_; subst ea_)); subst ec_; clear en_))
      have GB19 := aM gb19
      have GG19 := aM HG19
      clear gb19 gl19 HG19
      obtain ⟨hx19_0, hf19_0⟩ := Kd.R_celln 0 HO_5.out (x22_1 : Int) p19 q19
      replace p19 := eq_true p19
      replace q19 := eq_true q19
      have HP20 := Kd.R_putg HO_5.out (x22_1 : Int) (((rd l1 x22_1) + (rd l0 x22_1) + x6_1) % 18446744073709551616)
      go_wp2_with (first | ((with_reducible refine gate_store (t := 65) (p := 45) rfl ?_); refine store_event (t := 65) (p := 45) (v := ?vo_w21) (w1 := (wr.setCell ⟨go19, (x22_1 : Int).toNat, none⟩ (.int .u64 (((rd l1 x22_1) + (rd l0 x22_1) + x6_1) % 18446744073709551616)))) ?hg ?ho ?hn ?hr ?_; (case ho => rfl); (case hg => rfl); (case hn => rfl); (case hr => first | (go_simp; done) | (go_simp; rfl)); intro w21 hw; have hg : wr.grownBy w21 (some go19) := (by rw [hw]; exact HP20.2); have hp_ : Kd.R (Kd.int .u64) 65 w21 w.heap.size (fun _ => True) (.slice (some ⟨go19, 0, none⟩) x5_1.length co19) y143 := (by rw [hw, Ny143.out]; exact HP20.1); clear HP20; have n0_ := aM (hp_); have n1_ := aM ((by rw [hw]; exact bE (HB.out) GB19.out : Below w.heap.size w w21)); clear HO_5 HB; have HO_5 := n0_; have HB := n1_; clear n0_ n1_ hg hw hp_))
      go_roundg k1
      case measure => have := HK1.out; omega
      case rel => exact ⟨(y143), (((rd l1 x22_1) + (rd l0 x22_1) + x6_1) / 18446744073709551616), (wrap64 (x22_1 + 1)), (by first | rfl | (simp; done) | (simp [*]; done)), (by first | rfl | (simp; done) | (simp [*]; done)), (by first | exact H' | (have h_ := H'; simp only [← hji4] at h_; exact h_)), ⟨by have := HK1.out; omega⟩, ⟨by apply_rules [HO_5.out, rN, rD]⟩, ⟨by apply_rules [HB.out, bA, pN, bD]⟩⟩
     ·rw [if_neg c10] at H
      have c10b0 : decide (x22_1 < (l0.length : Int)) = false := decide_eq_false c10
      clear c10
      by_cases c22 : 0 ≤ x22_1
      rotate_left
      ·rw [if_neg c22] at H; cases H
      rw [if_pos c22] at H
      have c22b0 : decide (0 ≤ x22_1) = true := dT c22
      clear c22
      by_cases c23 : x22_1 < (l1.length : Int)
      rotate_left
      ·rw [if_neg c23] at H; cases H
      rw [if_pos c23] at H
      have c23b0 : decide (x22_1 < (l1.length : Int)) = true := dT c23
      clear c23
      by_cases c24 : 0 ≤ (rd l1 x22_1)
      rotate_left
      ·rw [if_neg c24] at H; cases H
      rw [if_pos c24] at H
      have c24b0 := eq_true c24
      have c24b1 : decide (0 ≤ (rd l1 x22_1)) = true := dT c24
      clear c24
      by_cases c25 : 0 ≤ x6_1
      rotate_left
      ·rw [if_neg c25] at H; cases H
      rw [if_pos c25] at H
      have c25b0 := eq_true c25
      have c25b1 : decide (0 ≤ x6_1) = true := dT c25
      clear c25
      by_cases c26 : x6_1 ≤ 1
      rotate_left
      ·rw [if_neg c26] at H; cases H
      rw [if_pos c26] at H
      have c26b0 := eq_true c26
      have c26b1 : decide (x6_1 ≤ 1) = true := dT c26
      clear c26
      have hx27 := fun w_ => call_add64_28 (rd l1 x22_1) 0 x6_1 (oD (by first | decide | (with_reducible assumption) | assumption | (simp only [decide_eq_true_eq]; omega))) (oD (by first | decide | (with_reducible assumption) | assumption | (simp only [decide_eq_true_eq]; omega))) (oD (by first | decide | (with_reducible assumption) | assumption | (simp only [decide_eq_true_eq]; omega))) (oD (by first | decide | (with_reducible assumption) | assumption | (simp only [decide_eq_true_eq]; omega))) w_
      by_cases c28 : x22_1 < (x5_1.length : Int)
      rotate_left
      ·rw [if_neg c28] at H; cases H
      rw [if_pos c28] at H
      have c28b0 : decide (x22_1 < (x5_1.length : Int)) = true := dT c28
      clear c28
      obtain ⟨y145, hy145⟩ : ∃ y_ : List Int, y_ = (x5_1.set (x22_1 : Int).toNat (((rd l1 x22_1) + x6_1) % 18446744073709551616)) := ⟨_, rfl⟩
      replace H : (nat_Add.l0 k1 l1 l0 y145 (((rd l1 x22_1) + x6_1) / 18446744073709551616) (l1.length : Int) (wrap64 (x22_1 + 1))) = some r := by first | (rw [hy145]; exact H) | exact H
      have Ny145 := aM hy145
      clear hy145; have H' := aM H; clear H
      have p144 : 0 ≤ (x22_1 : Int) := oD (by first | (with_reducible assumption) | assumption)
      have q144 : x22_1 < (l1.length : Int) := oD (by first | (with_reducible assumption) | assumption)
      obtain ⟨ad144, e144, hx144_0⟩ := Kd.at_int HR1.out x22_1 p144 q144
      cases e144
      replace hx144_0 := (HB.out.cell (wL w _ hx144_0)).trans hx144_0
      replace p144 := eq_true p144
      replace q144 := eq_true q144
      have p29 : 0 ≤ (x22_1 : Int) := oD (by first | (with_reducible assumption) | assumption)
      have q29 : (x22_1 : Int) < ((x5_1.length : Int) : Int) := oD (by first | (with_reducible assumption) | assumption)
      obtain ⟨go29, co29, eo29, gb29, gl29, cl29, HG29⟩ := Kd.R_form HO_5.out (by omega)
      (first | cases eo29 | (injection eo29 with ea_ en_ ec_; (first | subst ea_ | (injection ea_ with ea_; subst ea_)); subst ec_; clear en_))
      have GB29 := aM gb29
      have GG29 := aM HG29
      clear gb29 gl29 HG29
      obtain ⟨hx29_0, hf29_0⟩ := Kd.R_celln 0 HO_5.out (x22_1 : Int) p29 q29
      replace p29 := eq_true p29
      replace q29 := eq_true q29
      have HP30 := Kd.R_putg HO_5.out (x22_1 : Int) (((rd l1 x22_1) + x6_1) % 18446744073709551616)
      go_wp2_with (first | ((with_reducible refine gate_store (t := 65) (p := 45) rfl ?_); refine store_event (t := 65) (p := 45) (v := ?vo_w31) (w1 := (wr.setCell ⟨go29, (x22_1 : Int).toNat, none⟩ (.int .u64 (((rd l1 x22_1) + x6_1) % 18446744073709551616)))) ?hg ?ho ?hn ?hr ?_; (case ho => rfl); (case hg => rfl); (case hn => rfl); (case hr => first | (go_simp; done) | (go_simp; rfl)); intro w31 hw; have hg : wr.grownBy w31 (some go29) := (by rw [hw]; exact HP30.2); have hp_ : Kd.R (Kd.int .u64) 65 w31 w.heap.size (fun _ => True) (.slice (some ⟨go29, 0, none⟩) x5_1.length co29) y145 := (by rw [hw, Ny145.out]; exact HP30.1); clear HP30; have n0_ := aM (hp_); have n1_ := aM ((by rw [hw]; exact bE (HB.out) GB29.out : Below w.heap.size w w31)); clear HO_5 HB; have HO_5 := n0_; have HB := n1_; clear n0_ n1_ hg hw hp_))
      go_roundg k1
      case measure => have := HK1.out; omega
      case rel => exact ⟨(y145), (((rd l1 x22_1) + x6_1) / 18446744073709551616), (wrap64 (x22_1 + 1)), (by first | rfl | (simp; done) | (simp [*]; done)), (by first | rfl | (simp; done) | (simp [*]; done)), (by first | exact H' | (have h_ := H'; simp only [← hji4] at h_; exact h_)), ⟨by have := HK1.out; omega⟩, ⟨by apply_rules [HO_5.out, rN, rD]⟩, ⟨by apply_rules [HB.out, bA, pN, bD]⟩⟩
    ·rw [if_neg c9] at H
     have c9b0 : decide (x22_1 < (l1.length : Int)) = false := decide_eq_false c9
     clear c9
     by_cases c32 : 0 ≤ (l1.length : Int)
     rotate_left
     ·rw [if_neg c32] at H; cases H
     rw [if_pos c32] at H
     have c32b0 : decide (0 ≤ (l1.length : Int)) = true := dT c32
     have c32b1 : decide (0 ≤ l1.length) = true := dT (by omega)
     clear c32
     by_cases c33 : (l1.length : Int) < (x5_1.length : Int)
     rotate_left
     ·rw [if_neg c33] at H; cases H
     rw [if_pos c33] at H
     have c33b0 : decide ((l1.length : Int) < (x5_1.length : Int)) = true := dT c33
     have c33b1 : decide (l1.length < x5_1.length) = true := dT (Int.ofNat_lt.mp c33)
     clear c33
     obtain ⟨y146, hy146⟩ : ∃ y_ : List Int, y_ = (x5_1.set ((l1.length : Int) : Int).toNat x6_1) := ⟨_, rfl⟩
     replace H : ((nat_cut.f k1 y146).bind fun t147 => (some t147)) = some r := by first | (rw [hy146]; exact H) | exact H
     have Ny146 := aM hy146
     clear hy146
     replace H := oB H
     obtain ⟨t147, A350, H⟩ := H
     replace H : (some t147) = some r := H
     have A35 := aM A350; clear A350
     obtain rfl := Option.some.inj H
     have p34 : 0 ≤ ((l1.length : Int) : Int) := oD (by first | (with_reducible assumption) | assumption)
     have q34 : ((l1.length : Int) : Int) < ((x5_1.length : Int) : Int) := oD (by first | (with_reducible assumption) | assumption)
     obtain ⟨go34, co34, eo34, gb34, gl34, cl34, HG34⟩ := Kd.R_form HO_5.out (by omega)
     (first | cases eo34 | (injection eo34 with ea_ en_ ec_; (first | subst ea_ | (injection ea_ with ea_; subst ea_)); subst ec_; clear en_))
     have GB34 := aM gb34
     have GG34 := aM HG34
     clear gb34 gl34 HG34
     obtain ⟨hx34_0, hf34_0⟩ := Kd.R_celln 0 HO_5.out ((l1.length : Int) : Int) p34 q34
     (try simp only [Int.toNat_natCast] at hx34_0)
     (try simp only [Int.toNat_natCast] at hf34_0)
     replace p34 := eq_true p34
     replace q34 := eq_true q34
     have HP36 := Kd.R_putg HO_5.out ((l1.length : Int) : Int) x6_1
     go_wp2_with (first | ((with_reducible refine gate_store (t := 65) (p := 51) rfl ?_); refine store_event (t := 65) (p := 51) (v := ?vo_w37) (w1 := (wr.setCell ⟨go34, ((l1.length : Int) : Int).toNat, none⟩ (.int .u64 x6_1))) ?hg ?ho ?hn ?hr ?_; (case ho => rfl); (case hg => rfl); (case hn => rfl); (case hr => first | (go_simp; done) | (go_simp; rfl)); intro w37 hw; have hg : wr.grownBy w37 (some go34) := (by rw [hw]; exact HP36.2); have hp_ : Kd.R (Kd.int .u64) 65 w37 w.heap.size (fun _ => True) (.slice (some ⟨go34, 0, none⟩) x5_1.length co34) y146 := (by rw [hw, Ny146.out]; exact HP36.1); clear HP36; have n0_ := aM (hp_); have n1_ := aM ((by rw [hw]; exact bE (HB.out) GB34.out : Below w.heap.size w w37)); clear HO_5 HB; have HO_5 := n0_; have HB := n1_; clear n0_ n1_ hg hw hp_) | ((with_reducible refine gC (f := 29) rfl ?_); refine gL (some 53) rfl rfl Try.func29 (by kernel_rfl) rfl #[.slice (some ⟨go34, 0, none⟩) x5_1.length co34] rfl (by (try simp only [mA, mC, mN]); first | done | rfl | (simp only [lD, lT]; rfl)) ?_; (with_reducible refine (nat_cut.calls k1 (fun k_ => some k_ = (.slice (some ⟨go34, 0, none⟩) x5_1.length co34 : Value).ownBlock) (.slice (some ⟨go34, 0, none⟩) x5_1.length co34) y146 t147 w _ ?side1 ?side2 A35.out).mono ?_); (case side1 => repeat (first | (with_reducible first | exact HB.out | apply bA | apply pN | apply bD) | exact HB.out)); (case side2 => exact Kd.R_tight rfl HO_5.out); rintro e w38 ⟨v148, rfl, ho0, hb, hkp⟩; refine ⟨_, rfl, ?_⟩; have n0_ := aM (Kd.R_mono (ok' := fun k_ => True) ho0 (fun k_ hk_ => trivial)); have n1_ := aM (hb); clear HB HO_5; have HO149 := n0_; have HB := n1_; clear n0_ n1_; (try clear hb); (try clear hkp); (try clear ho0)))
     go_ret
     exact ⟨_, by first | rfl | (simp [errW_none, errW_some] <;> rfl) | (simp only [← hji4]; first | rfl | (simp [errW_none, errW_some] <;> rfl)) | (simp [*, errW_none, errW_some] <;> rfl), by (with_reducible repeat (first | apply rN | apply rD)); exact HO149.out, by apply_rules [HB.out, bA, pN, bD]⟩
 ·rw [if_neg c3] at H
  have c3b0 : decide ((l0.length : Int) < (l1.length : Int)) = false := decide_eq_false c3
  have c3b1 : decide (l0.length < l1.length) = false := decide_eq_false (fun h => c3 (Int.ofNat_lt.mpr h))
  clear c3
  obtain ⟨ji39, hji39⟩ : ∃ j_ : Int, (wrap64 ((l0.length : Int) + 1)) = j_ := ⟨_, rfl⟩
  replace H : (if 0 ≤ (ji39) then (if (ji39 : Int).toNat ≤ 35184372088832 then (nat_Add.l100 k l0 l1 (List.replicate (ji39 : Int).toNat 0) 0 (l0.length : Int) 0) else (none)) else (none)) = some r := by first | (rw [hji39] at H; exact H) | (simp only [hji39] at H ⊢; exact H)
  have hji39w : (IntKind.i64.wrap ((l0.length : Int) + 1)) = ji39 := (i64_w _).trans hji39
  by_cases c40 : 0 ≤ (ji39)
  rotate_left
  ·rw [if_neg c40] at H; cases H
  rw [if_pos c40] at H
  have c40b0 := eq_true c40
  have c40b1 : decide (0 ≤ (ji39)) = true := dT c40
  clear c40
  by_cases c41 : (ji39 : Int).toNat ≤ 35184372088832
  rotate_left
  ·rw [if_neg c41] at H; cases H
  rw [if_pos c41] at H
  have c41b0 := eq_true c41
  have c41b1 : decide ((ji39 : Int).toNat ≤ 35184372088832) = true := dT c41
  clear c41
  obtain ⟨y150, hy150⟩ : ∃ y_ : List Int, y_ = (List.replicate (ji39 : Int).toNat 0) := ⟨_, rfl⟩
  replace H : (nat_Add.l100 k l0 l1 y150 0 (l0.length : Int) 0) = some r := by first | (rw [hy150]; exact H) | exact H
  have Ny150 := aM hy150
  clear hy150; have H' := aM H; clear H
  go_enter Try.func20, Try.ntmps20
  go_wp2_with (first | ((with_reducible refine gate_dst (N := 19) rfl ?_); refine Kd.R_make (Kd.int .u64) _ 65 rfl (N := 19) rfl 53 _ _ rfl ji39 rfl rfl Try.underlying53 (.int .u64 0) 8 info65 rfl (by decide) (by omega) 0 (ok := fun _ => True) (okp := fun _ => True) rfl (fun _ hk => hk) trivial (oD (by first | (with_reducible assumption) | assumption)) (Nat.le_trans (Nat.mul_le_mul_right _ (oD (by first | (with_reducible assumption) | assumption) : ji39.toNat ≤ 35184372088832)) (by omega)) (Below.refl _ _) (Nat.le_refl _) ?_; intro v151 w42 ho43 hb hg_ hnew_; clear hg_ hnew_; (first | rw [← Ny150.out] at ho43 | (simp only [Int.reduceToNat] at ho43; rw [← Ny150.out] at ho43)); have n0_ := aM (Kd.R_lower ho43 (bZ (by apply_rules [HB.out, bA, pN, bD]))); have n1_ := aM (bS (by apply_rules [HB.out, bA, pN, bD]) hb); clear HB; have HO152 := n0_; have HB := n1_; clear n0_ n1_ hb ho43))
  go_loopg [6, 22] k (fun kq v6 v22 w' => ∃ (x5_1 : List Int) (x6_1 : Int) (x22_1 : Int), v6 = .int .u64 x6_1 ∧ v22 = .int .i64 x22_1 ∧ Aside0 (nat_Add.l100 kq l0 l1 x5_1 x6_1 (l0.length : Int) x22_1 = some r) ∧ Aside0 (kq ≤ k) ∧ Aside0 (Kd.R (Kd.int .u64) 65 w' w.heap.size (fun _ => True) v151 x5_1) ∧ Aside0 (Below w.heap.size w w'))
  case atStart => exact ⟨(y150), (0), (0), (by first | rfl | (simp; done) | (simp [*]; done)), (by first | rfl | (simp; done) | (simp [*]; done)), H', ⟨Nat.le_refl _⟩, ⟨by apply_rules [HO152.out, rN, rD]⟩, ⟨by apply_rules [HB.out, bA, pN, bD]⟩⟩
  case round =>
   clear H'
   try clear c1
   try clear p1
   try clear q1
   try clear hx1
   try clear c2
   try clear p2
   try clear q2
   try clear hx2
   try clear hf2
   try clear c3
   try clear c3b0
   try clear c3b1
   try clear p3
   try clear q3
   try clear hx3
   try clear hf3
   try clear c4
   try clear c5
   try clear c5b0
   try clear c5b1
   try clear c6
   try clear c6b0
   try clear c6b1
   try clear p6
   try clear c9
   try clear c9b0
   try clear c10
   try clear c10b0
   try clear c11
   try clear c11b0
   try clear c12
   try clear c12b0
   try clear c13
   try clear c13b0
   try clear c13b1
   try clear c14
   try clear c14b0
   try clear c14b1
   try clear p14
   try clear q14
   try clear hx14
   try clear c15
   try clear c15b0
   try clear c15b1
   try clear c16
   try clear c16b0
   try clear c16b1
   try clear hx17
   try clear c18
   try clear c18b0
   try clear p19
   try clear q19
   try clear hx19
   try clear hf19
   try clear c20
   try clear c22
   try clear c22b0
   try clear c23
   try clear c23b0
   try clear c24
   try clear c24b0
   try clear c24b1
   try clear c25
   try clear c25b0
   try clear c25b1
   try clear c26
   try clear c26b0
   try clear c26b1
   try clear hx27
   try clear c28
   try clear c28b0
   try clear c29
   try clear p29
   try clear q29
   try clear hx29
   try clear hf29
   try clear c32
   try clear c32b0
   try clear c32b1
   try clear c33
   try clear c33b0
   try clear c33b1
   try clear p34
   try clear q34
   try clear hx34
   try clear hf34
   try clear c40
   try clear c40b0
   try clear c40b1
   try clear c41
   try clear c41b0
   try clear c41b1
   try clear hx141_0
   try clear hx142_0
   try clear hx144_0
   try clear hx19_0
   try clear hx29_0
   try clear hx34_0
   try clear p141
   try clear p142
   try clear p144
   try clear p19
   try clear p2
   try clear p29
   try clear p34
   try clear p6
   try clear q141
   try clear q142
   try clear q144
   try clear q19
   try clear q29
   try clear q34
   obtain ⟨x5_1, x6_1, x22_1, rfl, rfl, HA, HK1, HO_5, HB⟩ := hrel
   cases gk with
   | zero => exact absurd HA.out (by simp [nat_Add.l100])
   | succ k1 =>
    have H := HA.out
    clear HA
    simp only [nat_Add.l100] at H
    by_cases c44 : x22_1 < (l0.length : Int)
    ·rw [if_pos c44] at H
     have c44b0 : decide (x22_1 < (l0.length : Int)) = true := dT c44
     clear c44
     by_cases c45 : x22_1 < (l1.length : Int)
     ·rw [if_pos c45] at H
      have c45b0 : decide (x22_1 < (l1.length : Int)) = true := dT c45
      clear c45
      by_cases c46 : 0 ≤ x22_1
      rotate_left
      ·rw [if_neg c46] at H; cases H
      rw [if_pos c46] at H
      have c46b0 : decide (0 ≤ x22_1) = true := dT c46
      clear c46
      by_cases c47 : x22_1 < (l0.length : Int)
      rotate_left
      ·rw [if_neg c47] at H; cases H
      rw [if_pos c47] at H
      have c47b0 : decide (x22_1 < (l0.length : Int)) = true := dT c47
      clear c47
      by_cases c48 : 0 ≤ (rd l0 x22_1)
      rotate_left
      ·rw [if_neg c48] at H; cases H
      rw [if_pos c48] at H
      have c48b0 := eq_true c48
      have c48b1 : decide (0 ≤ (rd l0 x22_1)) = true := dT c48
      clear c48
      by_cases c49 : 0 ≤ (rd l1 x22_1)
      rotate_left
      ·rw [if_neg c49] at H; cases H
      rw [if_pos c49] at H
      have c49b0 := eq_true c49
      have c49b1 : decide (0 ≤ (rd l1 x22_1)) = true := dT c49
      clear c49
      by_cases c50 : 0 ≤ x6_1
      rotate_left
      ·rw [if_neg c50] at H; cases H
      rw [if_pos c50] at H
      have c50b0 := eq_true c50
      have c50b1 : decide (0 ≤ x6_1) = true := dT c50
      clear c50
      by_cases c51 : x6_1 ≤ 1
      rotate_left
      ·rw [if_neg c51] at H; cases H
      rw [if_pos c51] at H
      have c51b0 := eq_true c51
      have c51b1 : decide (x6_1 ≤ 1) = true := dT c51
      clear c51
      have hx52 := fun w_ => call_add64_28 (rd l0 x22_1) (rd l1 x22_1) x6_1 (oD (by first | decide | (with_reducible assumption) | assumption | (simp only [decide_eq_true_eq]; omega))) (oD (by first | decide | (with_reducible assumption) | assumption | (simp only [decide_eq_true_eq]; omega))) (oD (by first | decide | (with_reducible assumption) | assumption | (simp only [decide_eq_true_eq]; omega))) (oD (by first | decide | (with_reducible assumption) | assumption | (simp only [decide_eq_true_eq]; omega))) w_
      by_cases c53 : x22_1 < (x5_1.length : Int)
      rotate_left
      ·rw [if_neg c53] at H; cases H
      rw [if_pos c53] at H
      have c53b0 : decide (x22_1 < (x5_1.length : Int)) = true := dT c53
      clear c53
      obtain ⟨y155, hy155⟩ : ∃ y_ : List Int, y_ = (x5_1.set (x22_1 : Int).toNat (((rd l0 x22_1) + (rd l1 x22_1) + x6_1) % 18446744073709551616)) := ⟨_, rfl⟩
      replace H : (nat_Add.l100 k1 l0 l1 y155 (((rd l0 x22_1) + (rd l1 x22_1) + x6_1) / 18446744073709551616) (l0.length : Int) (wrap64 (x22_1 + 1))) = some r := by first | (rw [hy155]; exact H) | exact H
      have Ny155 := aM hy155
      clear hy155; have H' := aM H; clear H
      have p153 : 0 ≤ (x22_1 : Int) := oD (by first | (with_reducible assumption) | assumption)
      have q153 : x22_1 < (l1.length : Int) := oD (by first | (with_reducible assumption) | assumption)
      obtain ⟨ad153, e153, hx153_0⟩ := Kd.at_int HR1.out x22_1 p153 q153
      cases e153
      replace hx153_0 := (HB.out.cell (wL w _ hx153_0)).trans hx153_0
      replace p153 := eq_true p153
      replace q153 := eq_true q153
      have p154 : 0 ≤ (x22_1 : Int) := oD (by first | (with_reducible assumption) | assumption)
      have q154 : x22_1 < (l0.length : Int) := oD (by first | (with_reducible assumption) | assumption)
      obtain ⟨ad154, e154, hx154_0⟩ := Kd.at_int HR0.out x22_1 p154 q154
      cases e154
      replace hx154_0 := (HB.out.cell (wL w _ hx154_0)).trans hx154_0
      replace p154 := eq_true p154
      replace q154 := eq_true q154
      have p54 : 0 ≤ (x22_1 : Int) := oD (by first | (with_reducible assumption) | assumption)
      have q54 : (x22_1 : Int) < ((x5_1.length : Int) : Int) := oD (by first | (with_reducible assumption) | assumption)
      obtain ⟨go54, co54, eo54, gb54, gl54, cl54, HG54⟩ := Kd.R_form HO_5.out (by omega)
      (first | cases eo54 | (injection eo54 with ea_ en_ ec_; (first | subst ea_ | (injection ea_ with ea_; subst ea_)); subst ec_; clear en_))
      have GB54 := aM gb54
      have GG54 := aM HG54
      clear gb54 gl54 HG54
      obtain ⟨hx54_0, hf54_0⟩ := Kd.R_celln 0 HO_5.out (x22_1 : Int) p54 q54
      replace p54 := eq_true p54
      replace q54 := eq_true q54
      have HP55 := Kd.R_putg HO_5.out (x22_1 : Int) (((rd l0 x22_1) + (rd l1 x22_1) + x6_1) % 18446744073709551616)
      go_wp2_with (first | ((with_reducible refine gate_store (t := 65) (p := 45) rfl ?_); refine store_event (t := 65) (p := 45) (v := ?vo_w56) (w1 := (wr.setCell ⟨go54, (x22_1 : Int).toNat, none⟩ (.int .u64 (((rd l0 x22_1) + (rd l1 x22_1) + x6_1) % 18446744073709551616)))) ?hg ?ho ?hn ?hr ?_; (case ho => rfl); (case hg => rfl); (case hn => rfl); (case hr => first | (go_simp; done) | (go_simp; rfl)); intro w56 hw; have hg : wr.grownBy w56 (some go54) := (by rw [hw]; exact HP55.2); have hp_ : Kd.R (Kd.int .u64) 65 w56 w.heap.size (fun _ => True) (.slice (some ⟨go54, 0, none⟩) x5_1.length co54) y155 := (by rw [hw, Ny155.out]; exact HP55.1); clear HP55; have n0_ := aM (hp_); have n1_ := aM ((by rw [hw]; exact bE (HB.out) GB54.out : Below w.heap.size w w56)); clear HO_5 HB; have HO_5 := n0_; have HB := n1_; clear n0_ n1_ hg hw hp_))
      go_roundg k1
      case measure => have := HK1.out; omega
      case rel => exact ⟨(y155), (((rd l0 x22_1) + (rd l1 x22_1) + x6_1) / 18446744073709551616), (wrap64 (x22_1 + 1)), (by first | rfl | (simp; done) | (simp [*]; done)), (by first | rfl | (simp; done) | (simp [*]; done)), (by first | exact H' | (have h_ := H'; simp only [← hji39] at h_; exact h_)), ⟨by have := HK1.out; omega⟩, ⟨by apply_rules [HO_5.out, rN, rD]⟩, ⟨by apply_rules [HB.out, bA, pN, bD]⟩⟩
     ·rw [if_neg c45] at H
      have c45b0 : decide (x22_1 < (l1.length : Int)) = false := decide_eq_false c45
      clear c45
      by_cases c57 : 0 ≤ x22_1
      rotate_left
      ·rw [if_neg c57] at H; cases H
      rw [if_pos c57] at H
      have c57b0 : decide (0 ≤ x22_1) = true := dT c57
      clear c57
      by_cases c58 : x22_1 < (l0.length : Int)
      rotate_left
      ·rw [if_neg c58] at H; cases H
      rw [if_pos c58] at H
      have c58b0 : decide (x22_1 < (l0.length : Int)) = true := dT c58
      clear c58
      by_cases c59 : 0 ≤ (rd l0 x22_1)
      rotate_left
      ·rw [if_neg c59] at H; cases H
      rw [if_pos c59] at H
      have c59b0 := eq_true c59
      have c59b1 : decide (0 ≤ (rd l0 x22_1)) = true := dT c59
      clear c59
      by_cases c60 : 0 ≤ x6_1
      rotate_left
      ·rw [if_neg c60] at H; cases H
      rw [if_pos c60] at H
      have c60b0 := eq_true c60
      have c60b1 : decide (0 ≤ x6_1) = true := dT c60
      clear c60
      by_cases c61 : x6_1 ≤ 1
      rotate_left
      ·rw [if_neg c61] at H; cases H
      rw [if_pos c61] at H
      have c61b0 := eq_true c61
      have c61b1 : decide (x6_1 ≤ 1) = true := dT c61
      clear c61
      have hx62 := fun w_ => call_add64_28 (rd l0 x22_1) 0 x6_1 (oD (by first | decide | (with_reducible assumption) | assumption | (simp only [decide_eq_true_eq]; omega))) (oD (by first | decide | (with_reducible assumption) | assumption | (simp only [decide_eq_true_eq]; omega))) (oD (by first | decide | (with_reducible assumption) | assumption | (simp only [decide_eq_true_eq]; omega))) (oD (by first | decide | (with_reducible assumption) | assumption | (simp only [decide_eq_true_eq]; omega))) w_
      by_cases c63 : x22_1 < (x5_1.length : Int)
      rotate_left
      ·rw [if_neg c63] at H; cases H
      rw [if_pos c63] at H
      have c63b0 : decide (x22_1 < (x5_1.length : Int)) = true := dT c63
      clear c63
      obtain ⟨y157, hy157⟩ : ∃ y_ : List Int, y_ = (x5_1.set (x22_1 : Int).toNat (((rd l0 x22_1) + x6_1) % 18446744073709551616)) := ⟨_, rfl⟩
      replace H : (nat_Add.l100 k1 l0 l1 y157 (((rd l0 x22_1) + x6_1) / 18446744073709551616) (l0.length : Int) (wrap64 (x22_1 + 1))) = some r := by first | (rw [hy157]; exact H) | exact H
      have Ny157 := aM hy157
      clear hy157; have H' := aM H; clear H
      have p156 : 0 ≤ (x22_1 : Int) := oD (by first | (with_reducible assumption) | assumption)
      have q156 : x22_1 < (l0.length : Int) := oD (by first | (with_reducible assumption) | assumption)
      obtain ⟨ad156, e156, hx156_0⟩ := Kd.at_int HR0.out x22_1 p156 q156
      cases e156
      replace hx156_0 := (HB.out.cell (wL w _ hx156_0)).trans hx156_0
      replace p156 := eq_true p156
      replace q156 := eq_true q156
      have p64 : 0 ≤ (x22_1 : Int) := oD (by first | (with_reducible assumption) | assumption)
      have q64 : (x22_1 : Int) < ((x5_1.length : Int) : Int) := oD (by first | (with_reducible assumption) | assumption)
      obtain ⟨go64, co64, eo64, gb64, gl64, cl64, HG64⟩ := Kd.R_form HO_5.out (by omega)
      (first | cases eo64 | (injection eo64 with ea_ en_ ec_; (first | subst ea_ | (injection ea_ with ea_; subst ea_)); subst ec_; clear en_))
      have GB64 := aM gb64
      have GG64 := aM HG64
      clear gb64 gl64 HG64
      obtain ⟨hx64_0, hf64_0⟩ := Kd.R_celln 0 HO_5.out (x22_1 : Int) p64 q64
      replace p64 := eq_true p64
      replace q64 := eq_true q64
      have HP65 := Kd.R_putg HO_5.out (x22_1 : Int) (((rd l0 x22_1) + x6_1) % 18446744073709551616)
      go_wp2_with (first | ((with_reducible refine gate_store (t := 65) (p := 45) rfl ?_); refine store_event (t := 65) (p := 45) (v := ?vo_w66) (w1 := (wr.setCell ⟨go64, (x22_1 : Int).toNat, none⟩ (.int .u64 (((rd l0 x22_1) + x6_1) % 18446744073709551616)))) ?hg ?ho ?hn ?hr ?_; (case ho => rfl); (case hg => rfl); (case hn => rfl); (case hr => first | (go_simp; done) | (go_simp; rfl)); intro w66 hw; have hg : wr.grownBy w66 (some go64) := (by rw [hw]; exact HP65.2); have hp_ : Kd.R (Kd.int .u64) 65 w66 w.heap.size (fun _ => True) (.slice (some ⟨go64, 0, none⟩) x5_1.length co64) y157 := (by rw [hw, Ny157.out]; exact HP65.1); clear HP65; have n0_ := aM (hp_); have n1_ := aM ((by rw [hw]; exact bE (HB.out) GB64.out : Below w.heap.size w w66)); clear HO_5 HB; have HO_5 := n0_; have HB := n1_; clear n0_ n1_ hg hw hp_))
      go_roundg k1
      case measure => have := HK1.out; omega
      case rel => exact ⟨(y157), (((rd l0 x22_1) + x6_1) / 18446744073709551616), (wrap64 (x22_1 + 1)), (by first | rfl | (simp; done) | (simp [*]; done)), (by first | rfl | (simp; done) | (simp [*]; done)), (by first | exact H' | (have h_ := H'; simp only [← hji39] at h_; exact h_)), ⟨by have := HK1.out; omega⟩, ⟨by apply_rules [HO_5.out, rN, rD]⟩, ⟨by apply_rules [HB.out, bA, pN, bD]⟩⟩
    ·rw [if_neg c44] at H
     have c44b0 : decide (x22_1 < (l0.length : Int)) = false := decide_eq_false c44
     clear c44
     by_cases c67 : 0 ≤ (l0.length : Int)
     rotate_left
     ·rw [if_neg c67] at H; cases H
     rw [if_pos c67] at H
     have c67b0 : decide (0 ≤ (l0.length : Int)) = true := dT c67
     have c67b1 : decide (0 ≤ l0.length) = true := dT (by omega)
     clear c67
     by_cases c68 : (l0.length : Int) < (x5_1.length : Int)
     rotate_left
     ·rw [if_neg c68] at H; cases H
     rw [if_pos c68] at H
     have c68b0 : decide ((l0.length : Int) < (x5_1.length : Int)) = true := dT c68
     have c68b1 : decide (l0.length < x5_1.length) = true := dT (Int.ofNat_lt.mp c68)
     clear c68
     obtain ⟨y158, hy158⟩ : ∃ y_ : List Int, y_ = (x5_1.set ((l0.length : Int) : Int).toNat x6_1) := ⟨_, rfl⟩
     replace H : ((nat_cut.f k1 y158).bind fun t159 => (some t159)) = some r := by first | (rw [hy158]; exact H) | exact H
     have Ny158 := aM hy158
     clear hy158
     replace H := oB H
     obtain ⟨t159, A700, H⟩ := H
     replace H : (some t159) = some r := H
     have A70 := aM A700; clear A700
     obtain rfl := Option.some.inj H
     have p69 : 0 ≤ ((l0.length : Int) : Int) := oD (by first | (with_reducible assumption) | assumption)
     have q69 : ((l0.length : Int) : Int) < ((x5_1.length : Int) : Int) := oD (by first | (with_reducible assumption) | assumption)
     obtain ⟨go69, co69, eo69, gb69, gl69, cl69, HG69⟩ := Kd.R_form HO_5.out (by omega)
     (first | cases eo69 | (injection eo69 with ea_ en_ ec_; (first | subst ea_ | (injection ea_ with ea_; subst ea_)); subst ec_; clear en_))
     have GB69 := aM gb69
     have GG69 := aM HG69
     clear gb69 gl69 HG69
     obtain ⟨hx69_0, hf69_0⟩ := Kd.R_celln 0 HO_5.out ((l0.length : Int) : Int) p69 q69
     (try simp only [Int.toNat_natCast] at hx69_0)
     (try simp only [Int.toNat_natCast] at hf69_0)
     replace p69 := eq_true p69
     replace q69 := eq_true q69
     have HP71 := Kd.R_putg HO_5.out ((l0.length : Int) : Int) x6_1
     go_wp2_with (first | ((with_reducible refine gate_store (t := 65) (p := 51) rfl ?_); refine store_event (t := 65) (p := 51) (v := ?vo_w72) (w1 := (wr.setCell ⟨go69, ((l0.length : Int) : Int).toNat, none⟩ (.int .u64 x6_1))) ?hg ?ho ?hn ?hr ?_; (case ho => rfl); (case hg => rfl); (case hn => rfl); (case hr => first | (go_simp; done) | (go_simp; rfl)); intro w72 hw; have hg : wr.grownBy w72 (some go69) := (by rw [hw]; exact HP71.2); have hp_ : Kd.R (Kd.int .u64) 65 w72 w.heap.size (fun _ => True) (.slice (some ⟨go69, 0, none⟩) x5_1.length co69) y158 := (by rw [hw, Ny158.out]; exact HP71.1); clear HP71; have n0_ := aM (hp_); have n1_ := aM ((by rw [hw]; exact bE (HB.out) GB69.out : Below w.heap.size w w72)); clear HO_5 HB; have HO_5 := n0_; have HB := n1_; clear n0_ n1_ hg hw hp_) | ((with_reducible refine gC (f := 29) rfl ?_); refine gL (some 53) rfl rfl Try.func29 (by kernel_rfl) rfl #[.slice (some ⟨go69, 0, none⟩) x5_1.length co69] rfl (by (try simp only [mA, mC, mN]); first | done | rfl | (simp only [lD, lT]; rfl)) ?_; (with_reducible refine (nat_cut.calls k1 (fun k_ => some k_ = (.slice (some ⟨go69, 0, none⟩) x5_1.length co69 : Value).ownBlock) (.slice (some ⟨go69, 0, none⟩) x5_1.length co69) y158 t159 w _ ?side1 ?side2 A70.out).mono ?_); (case side1 => repeat (first | (with_reducible first | exact HB.out | apply bA | apply pN | apply bD) | exact HB.out)); (case side2 => exact Kd.R_tight rfl HO_5.out); rintro e w73 ⟨v160, rfl, ho0, hb, hkp⟩; refine ⟨_, rfl, ?_⟩; have n0_ := aM (Kd.R_mono (ok' := fun k_ => True) ho0 (fun k_ hk_ => trivial)); have n1_ := aM (hb); clear HB HO_5; have HO161 := n0_; have HB := n1_; clear n0_ n1_; (try clear hb); (try clear hkp); (try clear ho0)))
     go_ret
     exact ⟨_, by first | rfl | (simp [errW_none, errW_some] <;> rfl) | (simp only [← hji39]; first | rfl | (simp [errW_none, errW_some] <;> rfl)) | (simp [*, errW_none, errW_some] <;> rfl), by (with_reducible repeat (first | apply rN | apply rD)); exact HO161.out, by apply_rules [HB.out, bA, pN, bD]⟩
def nat_Of.f (a0 : Int) : Option (List Int) := if a0 ≤ 0 then (some ([] : List Int)) else (some (([IntKind.u64.wrap (a0)] : List Int)))
theorem nat_Of.calls (a0 : Int) (r : List Int) (w : World) (h : nat_Of.f a0 = some r) :
  Calls Try.prog 27 #[.int .i64 a0] w fun e w' => ∃ v0_ : Value, e = .returned (v0_) ∧ Kd.R (Kd.int .u64) 65 w' w.heap.size (fun _ => True) v0_ r ∧ Below w.heap.size w w' := by
 have HB := aM (Below.refl w.heap.size w)
 have H : (if a0 ≤ 0 then (some ([] : List Int)) else (some (([IntKind.u64.wrap (a0)] : List Int)))) = some r := h
 clear h
 by_cases c2 : a0 ≤ 0
 ·rw [if_pos c2] at H
  have c2b0 : decide (a0 ≤ 0) = true := dT c2
  clear c2
  obtain rfl := Option.some.inj H
  go_enter Try.func27, Try.ntmps27
  go_wp2
  go_ret
  exact ⟨_, by first | rfl | (simp [errW_none, errW_some] <;> rfl) | (simp [*, errW_none, errW_some] <;> rfl), by first | exact Kd.R_nil _ _ _ _ _ | exact Kd.N_nil _ _ _ _ _ | exact Kd.V_nil _ _ _ _ _ | exact Kd.Q_nil _ _ _ _ _ | exact Kd.S_nil _ _ _ _ _, by apply_rules [HB.out, bA, pN, bD]⟩
 ·rw [if_neg c2] at H
  have c2b0 : decide (a0 ≤ 0) = false := decide_eq_false c2
  clear c2
  obtain ⟨y162, hy162⟩ : ∃ y_ : List Int, y_ = (([IntKind.u64.wrap (a0)] : List Int)) := ⟨_, rfl⟩
  replace H : (some y162) = some r := by first | (rw [hy162]; exact H) | exact H
  have Ny162 := aM hy162
  clear hy162
  obtain rfl := Option.some.inj H
  go_enter Try.func27, Try.ntmps27
  go_wp2_with (first | ((with_reducible refine gate_dst (N := 7) rfl ?_); refine Kd.R_lit (Kd.int .u64) _ 65 ?hg (N := 7) ?hd (xs := ([IntKind.u64.wrap (a0)] : List Int)) (inner := [.int .u64 (IntKind.u64.wrap (a0))]) (ok := fun _ => True) (okp := fun _ => True) ?hr ?hp (fun _ hk => hk) trivial (Below.refl _ _) (Nat.le_refl _) (by simp) ?_; (case hd => rfl); (case hg => rfl); (case hr => first | (go_simp; done) | (go_simp; rfl)); (case hp => exact (Reps.one (show Kd.M (Kd.int .u64) _ _ _ (IntKind.u64.wrap (a0)) [.int .u64 (IntKind.u64.wrap (a0))] from rfl) (Reps.none _ _))); intro v163 w3 ho4 hb hg_ hnew_; clear hg_ hnew_; (first | rw [← Ny162.out] at ho4 | (simp only [Int.reduceToNat] at ho4; rw [← Ny162.out] at ho4)); have n0_ := aM (Kd.R_lower ho4 (bZ (by apply_rules [HB.out, bA, pN, bD]))); have n1_ := aM (bS (by apply_rules [HB.out, bA, pN, bD]) hb); clear HB; have HO164 := n0_; have HB := n1_; clear n0_ n1_ hb ho4))
  go_ret
  exact ⟨_, by first | rfl | (simp [errW_none, errW_some] <;> rfl) | (simp [*, errW_none, errW_some] <;> rfl), by (with_reducible repeat (first | apply rN | apply rD)); exact HO164.out, by apply_rules [HB.out, bA, pN, bD]⟩
def bits_Mul64.f (a0 : Int) (a1 : Int) : Option (Int × Int) := some (IntKind.u64.wrap ((IntKind.u64.wrap ((IntKind.u64.wrap ((a0 / 4294967296) * (a1 / 4294967296))) + ((IntKind.u64.wrap ((IntKind.u64.wrap ((a0 / 4294967296) * (Go.bits .and .u64 a1 4294967295))) + ((IntKind.u64.wrap ((Go.bits .and .u64 a0 4294967295) * (Go.bits .and .u64 a1 4294967295))) / 4294967296))) / 4294967296))) + ((IntKind.u64.wrap ((Go.bits .and .u64 (IntKind.u64.wrap ((IntKind.u64.wrap ((a0 / 4294967296) * (Go.bits .and .u64 a1 4294967295))) + ((IntKind.u64.wrap ((Go.bits .and .u64 a0 4294967295) * (Go.bits .and .u64 a1 4294967295))) / 4294967296))) 4294967295) + (IntKind.u64.wrap ((Go.bits .and .u64 a0 4294967295) * (a1 / 4294967296))))) / 4294967296)), IntKind.u64.wrap (a0 * a1))
theorem bits_Mul64.calls (a0 : Int) (a1 : Int) (r1 : Int) (r2 : Int) (w : World) (h : bits_Mul64.f a0 a1 = some (r1, r2)) :
  Calls Try.prog 40 #[.int .u64 a0, .int .u64 a1] w fun e w' => e = .returned (.tuple #[.int .u64 r1, .int .u64 r2]) ∧ Drawn0 w w' := by
 have H : (some (IntKind.u64.wrap ((IntKind.u64.wrap ((IntKind.u64.wrap ((a0 / 4294967296) * (a1 / 4294967296))) + ((IntKind.u64.wrap ((IntKind.u64.wrap ((a0 / 4294967296) * (Go.bits .and .u64 a1 4294967295))) + ((IntKind.u64.wrap ((Go.bits .and .u64 a0 4294967295) * (Go.bits .and .u64 a1 4294967295))) / 4294967296))) / 4294967296))) + ((IntKind.u64.wrap ((Go.bits .and .u64 (IntKind.u64.wrap ((IntKind.u64.wrap ((a0 / 4294967296) * (Go.bits .and .u64 a1 4294967295))) + ((IntKind.u64.wrap ((Go.bits .and .u64 a0 4294967295) * (Go.bits .and .u64 a1 4294967295))) / 4294967296))) 4294967295) + (IntKind.u64.wrap ((Go.bits .and .u64 a0 4294967295) * (a1 / 4294967296))))) / 4294967296)), IntKind.u64.wrap (a0 * a1))) = some (r1, r2) := h
 clear h
 simp only [Option.some.injEq, Prod.mk.injEq] at H
 obtain ⟨rfl, rfl⟩ := H
 go_enter Try.func40, Try.ntmps40
 go_wp2
 go_ret2
 exact ⟨by first | rfl | (simp; done) | (simp [*]; done), by repeat (first | exact Drawn0.refl _ | apply Drawn0.step)⟩
end Go.Proofs.Ytaoekkikpceccaa.QLoadAdmitKeepsTheLimit
