/- Lean functions that answer as Go functions of this seat do, each with its proof. Condition: the Lean function answers 'some'. -/
import Derived.Test.YtaoekkikpceccaaLx0
import Derived.Test.YtaoekkikpceccaaLx4
namespace Go.Proofs.Ytaoekkikpceccaa.QLoadAdmitKeepsTheLimit
open Go.RowKit Go.Proofs.YtaoekkikpceccaaW.PrintWords Go.Proofs.YtaoekkikpceccaaW.PrintLast Go.Proofs.YtaoekkikpceccaaW.PrintMore
attribute [local go_sem] max2_int min2_int max_two min_two
set_option linter.unusedVariables false
set_option maxHeartbeats 8000000
set_option maxRecDepth 100000
set_option linter.unusedSimpArgs false
def nat_Shr.l0 : Nat → List Int → Int → Int → List Int → Int → Int → Option (List Int)
 | 0, _, _, _, _, _, _ => none
 | k + 1, x0, x5, x6, x7, x24, x25 => if x25 < x24 then (if 0 ≤ (wrap64 (x25 + x5)) then (if (wrap64 (x25 + x5)) < (x0.length : Int) then (if 0 ≤ x6 then (if 0 ≤ x25 then (if x25 < (x7.length : Int) then ((some (x7.set (x25 : Int).toNat (shr .u64 (rd x0 (wrap64 (x25 + x5))) x6) : List Int)).bind fun y338 => (if x6 > 0 then (if (wrap64 ((wrap64 (x25 + x5)) + 1)) < (x0.length : Int) then (if 0 ≤ (wrap64 ((wrap64 (x25 + x5)) + 1)) then (if 0 ≤ (IntKind.u64.wrap (64 - x6)) then (nat_Shr.l0 k x0 x5 x6 (y338.set (x25 : Int).toNat (Go.bits .or .u64 (rd y338 x25) (shl .u64 (rd x0 (wrap64 ((wrap64 (x25 + x5)) + 1))) (IntKind.u64.wrap (64 - x6))))) x24 (wrap64 (x25 + 1))) else (none)) else (none)) else (nat_Shr.l0 k x0 x5 x6 y338 x24 (wrap64 (x25 + 1)))) else (nat_Shr.l0 k x0 x5 x6 y338 x24 (wrap64 (x25 + 1))))) else (none)) else (none)) else (none)) else (none)) else (none)) else ((nat_cut.f k x7).bind fun t342 => (some t342))
def nat_Shr.f (k : Nat) (l0 : List Int) (a1 : Int) : Option (List Int) := if (wrap64 (Int.tdiv a1 64)) ≥ (l0.length : Int) then (some ([] : List Int)) else (if 0 ≤ (wrap64 ((l0.length : Int) - (wrap64 (Int.tdiv a1 64)))) then (if (wrap64 ((l0.length : Int) - (wrap64 (Int.tdiv a1 64))) : Int).toNat ≤ 35184372088832 then ((some (List.replicate (wrap64 ((l0.length : Int) - (wrap64 (Int.tdiv a1 64))) : Int).toNat 0 : List Int)).bind fun y334 => (nat_Shr.l0 k l0 (wrap64 (Int.tdiv a1 64)) (IntKind.u64.wrap (Int.tmod a1 64)) y334 (y334.length : Int) 0)) else (none)) else (none))
theorem nat_Shr.mono_l : ∀ k, (∀ y0 y1 y2 y3 y4 y5, LeO (nat_Shr.l0 k y0 y1 y2 y3 y4 y5) (nat_Shr.l0 (k + 1) y0 y1 y2 y3 y4 y5))
 | 0 => fun _ _ _ _ _ _ r h => by simp [nat_Shr.l0] at h
 | k + 1 => by
  have ih0 := nat_Shr.mono_l k
  ·intro y0 y1 y2 y3 y4 y5
   unfold nat_Shr.l0
   repeat' first
   | (with_reducible exact ih0 _ _ _ _ _ _)
   | (with_reducible exact nat_cut.mono _ _)
   | (with_reducible exact LeO.refl _)
   | (with_reducible exact LeO.none _)
   | (with_reducible refine LeO.ite ?_ ?_)
   | (with_reducible refine LeO.bind ?_ (fun _ => ?_))
theorem nat_Shr.mono : ∀ a0 a1 k, LeO (nat_Shr.f k a0 a1) (nat_Shr.f (k + 1) a0 a1) := by
 intro a0 a1 k
 have ih0 := nat_Shr.mono_l k
 unfold nat_Shr.f
 repeat' first
   | (with_reducible exact ih0 _ _ _ _ _ _)
   | (with_reducible exact nat_cut.mono _ _)
   | (with_reducible exact LeO.refl _)
   | (with_reducible exact LeO.none _)
   | (with_reducible refine LeO.ite ?_ ?_)
   | (with_reducible refine LeO.bind ?_ (fun _ => ?_))
def nat_Shr.T10 : Bool × List (List Nat × List Nat) := (true, [([], []), ([], []), ([0, 1], [0, 1]), ([2], [2]), ([], []), ([], []), ([], []), ([5, 6], [5, 6]), ([7], [7]), ([4, 8], [4, 8]), ([9], [9]), ([], []), ([11], [11]), ([10, 12], [10, 12]), ([3, 13], [3, 13]), ([0, 1, 0, 1, 2, 3, 4, 5, 6, 7, 8, 9, 10, 11, 12, 13, 14], [0, 1]), ([15, 14, 0, 1, 2, 3, 4, 5, 6, 7, 8, 9, 10, 11, 12, 13, 14], [14, 15])])
def nat_Shr.B10 : List Nat := [0, 0, 3, 7, 0, 0, 0, 96, 224, 496, 1008, 0, 2048, 8176, 16383, 32767, 65535]
theorem nat_Shr.tab10 : rtab .any (opsOf Try.f39 10) = nat_Shr.T10 := by kernel_rfl
theorem nat_Shr.bits10 : waitsOk nat_Shr.T10.2 nat_Shr.B10 = true := by kernel_rfl
theorem nat_Shr.calls (k : Nat) (A0 : Option Addr) (c0 : Nat) (l0 : List Int) (a1 : Int) (r : List Int) (w : World) (hr0 : Kd.C (Kd.int .u64) w A0 l0.length l0) (hc0 : l0.length ≤ c0) (h : nat_Shr.f k l0 a1 = some r) :
  Calls Try.prog 39 #[.slice A0 l0.length c0, .int .i64 a1] w fun e w' => ∃ v0_ : Value, e = .returned (v0_) ∧ Kd.R (Kd.int .u64) 65 w' w.heap.size (fun _ => True) v0_ r ∧ Below w.heap.size w w' := by
 have HR0 := aM hr0
 have HC0 := aM hc0
 clear hr0 hc0
 have HB := aM (Below.refl w.heap.size w)
 have H : (if (wrap64 (Int.tdiv a1 64)) ≥ (l0.length : Int) then (some ([] : List Int)) else (if 0 ≤ (wrap64 ((l0.length : Int) - (wrap64 (Int.tdiv a1 64)))) then (if (wrap64 ((l0.length : Int) - (wrap64 (Int.tdiv a1 64))) : Int).toNat ≤ 35184372088832 then ((some (List.replicate (wrap64 ((l0.length : Int) - (wrap64 (Int.tdiv a1 64))) : Int).toNat 0 : List Int)).bind fun y334 => (nat_Shr.l0 k l0 (wrap64 (Int.tdiv a1 64)) (IntKind.u64.wrap (Int.tmod a1 64)) y334 (y334.length : Int) 0)) else (none)) else (none))) = some r := h
 clear h
 by_cases c3 : (wrap64 (Int.tdiv a1 64)) ≥ (l0.length : Int)
 ·rw [if_pos c3] at H
  have c3b0 : decide ((l0.length : Int) ≤ (wrap64 (Int.tdiv a1 64))) = true := dT c3
  clear c3
  obtain rfl := Option.some.inj H
  go_enter Try.func39, Try.ntmps39
  go_wp2
  go_ret
  exact ⟨_, by first | rfl | (simp [errW_none, errW_some] <;> rfl) | (simp [*, errW_none, errW_some] <;> rfl), by first | exact Kd.R_nil _ _ _ _ _ | exact Kd.N_nil _ _ _ _ _ | exact Kd.V_nil _ _ _ _ _ | exact Kd.Q_nil _ _ _ _ _ | exact Kd.S_nil _ _ _ _ _, by apply_rules [HB.out, bA, pN, bD]⟩
 ·rw [if_neg c3] at H
  have c3b0 : decide ((l0.length : Int) ≤ (wrap64 (Int.tdiv a1 64))) = false := decide_eq_false c3
  clear c3
  obtain ⟨ji4, hji4⟩ : ∃ j_ : Int, (wrap64 ((l0.length : Int) - (wrap64 (Int.tdiv a1 64)))) = j_ := ⟨_, rfl⟩
  replace H : (if 0 ≤ (ji4) then (if (ji4 : Int).toNat ≤ 35184372088832 then ((some (List.replicate (ji4 : Int).toNat 0 : List Int)).bind fun y334 => (nat_Shr.l0 k l0 (wrap64 (Int.tdiv a1 64)) (IntKind.u64.wrap (Int.tmod a1 64)) y334 (y334.length : Int) 0)) else (none)) else (none)) = some r := by first | (rw [hji4] at H; exact H) | (simp only [hji4] at H ⊢; exact H)
  have hji4w : (IntKind.i64.wrap ((l0.length : Int) - (wrap64 (Int.tdiv a1 64)))) = ji4 := (i64_w _).trans hji4
  by_cases c5 : 0 ≤ (ji4)
  rotate_left
  ·rw [if_neg c5] at H; cases H
  rw [if_pos c5] at H
  have c5b0 := eq_true c5
  have c5b1 : decide (0 ≤ (ji4)) = true := dT c5
  clear c5
  by_cases c6 : (ji4 : Int).toNat ≤ 35184372088832
  rotate_left
  ·rw [if_neg c6] at H; cases H
  rw [if_pos c6] at H
  have c6b0 := eq_true c6
  have c6b1 : decide ((ji4 : Int).toNat ≤ 35184372088832) = true := dT c6
  clear c6
  obtain ⟨y334, hy334⟩ : ∃ y_ : List Int, y_ = (List.replicate (ji4 : Int).toNat 0) := ⟨_, rfl⟩
  replace H : (nat_Shr.l0 k l0 (wrap64 (Int.tdiv a1 64)) (IntKind.u64.wrap (Int.tmod a1 64)) y334 (y334.length : Int) 0) = some r := by first | (rw [hy334]; exact H) | exact H
  have Ny334 := aM hy334
  clear hy334; have H' := aM H; clear H
  go_enter Try.func39, Try.ntmps39
  go_wp2_with (first | ((with_reducible refine gate_dst (N := 22) rfl ?_); (try (refine gate_guard (by rfl) ?_; dsimp only)); refine Kd.R_make (Kd.int .u64) _ 65 rfl (N := 22) rfl 53 _ _ rfl ji4 rfl rfl Try.underlying53 (.int .u64 0) 8 info65 rfl (by decide) (by omega) 0 (ok := fun _ => True) (okp := fun _ => True) rfl (fun _ hk => hk) trivial (oD (by first | (with_reducible assumption) | assumption)) (Nat.le_trans (Nat.mul_le_mul_right _ (oD (by first | (with_reducible assumption) | assumption) : ji4.toNat ≤ 35184372088832)) (by omega)) (Below.refl _ _) (Nat.le_refl _) ?_; intro v335 w7 ho8 hb hg_ hnew_; clear hg_ hnew_; (first | rw [← Ny334.out] at ho8 | (simp only [Int.reduceToNat] at ho8; rw [← Ny334.out] at ho8)); have n0_ := aM (Kd.R_lower ho8 (bZ (by apply_rules [HB.out, bA, pN, bD]))); have n1_ := aM (bS (by apply_rules [HB.out, bA, pN, bD]) hb); clear HB; have HO336 := n0_; have HB := n1_; clear n0_ n1_ hb ho8; obtain ⟨Ao9, co9, eo9⟩ := Kd.R_slice HO336.out; subst eo9))
  go_loopg [25] k (fun kq v25 w' => ∃ (x7_1 : List Int) (x25_1 : Int), v25 = .int .i64 x25_1 ∧ Aside0 (nat_Shr.l0 kq l0 (wrap64 (Int.tdiv a1 64)) (IntKind.u64.wrap (Int.tmod a1 64)) x7_1 (y334.length : Int) x25_1 = some r) ∧ Aside0 (kq ≤ k) ∧ Aside0 (Kd.R (Kd.int .u64) 65 w' w.heap.size (fun _ => True) (.slice Ao9 y334.length co9) x7_1) ∧ Aside0 (Below w.heap.size w w'))
  case atStart => exact ⟨(y334), (0), (by first | rfl | (simp; done) | (simp [*]; done)), H', ⟨Nat.le_refl _⟩, ⟨by apply_rules [HO336.out, rN, rD]⟩, ⟨by apply_rules [HB.out, bA, pN, bD]⟩⟩
  case round =>
   clear H'
   try clear p2
   try clear c3
   try clear c3b0
   try clear c5
   try clear c5b0
   try clear c5b1
   try clear c6
   try clear c6b0
   try clear c6b1
   try clear p6
   obtain ⟨x7_1, x25_1, rfl, HA, HK1, HO_7, HB⟩ := hrel
   have hl7_1 := (rS HO_7.out).1
   rw [hl7_1] at HO_7
   (try simp only [hl7_1])
   cases gk with
   | zero => exact absurd HA.out (by simp [nat_Shr.l0])
   | succ k1 =>
    have H := HA.out
    clear HA
    simp only [nat_Shr.l0] at H
    by_cases c10 : x25_1 < (y334.length : Int)
    ·rw [if_pos c10] at H
     have c10b0 : decide (x25_1 < (y334.length : Int)) = true := dT c10
     (try simp only [hl7_1] at c10b0)
     clear c10
     obtain ⟨ji11, hji11⟩ : ∃ j_ : Int, (wrap64 (x25_1 + (wrap64 (Int.tdiv a1 64)))) = j_ := ⟨_, rfl⟩
     replace H : (if 0 ≤ (ji11) then (if (ji11) < (l0.length : Int) then (if 0 ≤ (IntKind.u64.wrap (Int.tmod a1 64)) then (if 0 ≤ x25_1 then (if x25_1 < (x7_1.length : Int) then ((some (x7_1.set (x25_1 : Int).toNat (shr .u64 (rd l0 (ji11)) (IntKind.u64.wrap (Int.tmod a1 64))) : List Int)).bind fun y338 => (if (IntKind.u64.wrap (Int.tmod a1 64)) > 0 then (if (wrap64 ((ji11) + 1)) < (l0.length : Int) then (if 0 ≤ (wrap64 ((ji11) + 1)) then (if 0 ≤ (IntKind.u64.wrap (64 - (IntKind.u64.wrap (Int.tmod a1 64)))) then (nat_Shr.l0 k1 l0 (wrap64 (Int.tdiv a1 64)) (IntKind.u64.wrap (Int.tmod a1 64)) (y338.set (x25_1 : Int).toNat (Go.bits .or .u64 (rd y338 x25_1) (shl .u64 (rd l0 (wrap64 ((ji11) + 1))) (IntKind.u64.wrap (64 - (IntKind.u64.wrap (Int.tmod a1 64))))))) (y334.length : Int) (wrap64 (x25_1 + 1))) else (none)) else (none)) else (nat_Shr.l0 k1 l0 (wrap64 (Int.tdiv a1 64)) (IntKind.u64.wrap (Int.tmod a1 64)) y338 (y334.length : Int) (wrap64 (x25_1 + 1)))) else (nat_Shr.l0 k1 l0 (wrap64 (Int.tdiv a1 64)) (IntKind.u64.wrap (Int.tmod a1 64)) y338 (y334.length : Int) (wrap64 (x25_1 + 1))))) else (none)) else (none)) else (none)) else (none)) else (none)) = some r := by first | (rw [hji11] at H; exact H) | (simp only [hji11] at H ⊢; exact H)
     have hji11w : (IntKind.i64.wrap (x25_1 + (wrap64 (Int.tdiv a1 64)))) = ji11 := (i64_w _).trans hji11
     by_cases c12 : 0 ≤ (ji11)
     rotate_left
     ·rw [if_neg c12] at H; cases H
     rw [if_pos c12] at H
     have c12b0 : decide (0 ≤ (ji11)) = true := dT c12
     clear c12
     by_cases c13 : (ji11) < (l0.length : Int)
     rotate_left
     ·rw [if_neg c13] at H; cases H
     rw [if_pos c13] at H
     have c13b0 : decide ((ji11) < (l0.length : Int)) = true := dT c13
     (try simp only [hl7_1] at c13b0)
     clear c13
     obtain ⟨ji14, hji14⟩ : ∃ j_ : Int, (IntKind.u64.wrap (Int.tmod a1 64)) = j_ := ⟨_, rfl⟩
     replace H : (if 0 ≤ (ji14) then (if 0 ≤ x25_1 then (if x25_1 < (x7_1.length : Int) then ((some (x7_1.set (x25_1 : Int).toNat (shr .u64 (rd l0 (ji11)) (ji14)) : List Int)).bind fun y338 => (if (ji14) > 0 then (if (wrap64 ((ji11) + 1)) < (l0.length : Int) then (if 0 ≤ (wrap64 ((ji11) + 1)) then (if 0 ≤ (IntKind.u64.wrap (64 - (ji14))) then (nat_Shr.l0 k1 l0 (wrap64 (Int.tdiv a1 64)) (ji14) (y338.set (x25_1 : Int).toNat (Go.bits .or .u64 (rd y338 x25_1) (shl .u64 (rd l0 (wrap64 ((ji11) + 1))) (IntKind.u64.wrap (64 - (ji14)))))) (y334.length : Int) (wrap64 (x25_1 + 1))) else (none)) else (none)) else (nat_Shr.l0 k1 l0 (wrap64 (Int.tdiv a1 64)) (ji14) y338 (y334.length : Int) (wrap64 (x25_1 + 1)))) else (nat_Shr.l0 k1 l0 (wrap64 (Int.tdiv a1 64)) (ji14) y338 (y334.length : Int) (wrap64 (x25_1 + 1))))) else (none)) else (none)) else (none)) = some r := by first | (rw [hji14] at H; exact H) | (simp only [hji14] at H ⊢; exact H)
     by_cases c15 : 0 ≤ (ji14)
     rotate_left
     ·rw [if_neg c15] at H; cases H
     rw [if_pos c15] at H
     have c15b0 := eq_true c15
     have c15b1 : decide (0 ≤ (ji14)) = true := dT c15
     clear c15
     obtain ⟨ji16, hji16⟩ : ∃ j_ : Int, (shr .u64 (rd l0 (ji11)) (ji14)) = j_ := ⟨_, rfl⟩
     replace H : (if 0 ≤ x25_1 then (if x25_1 < (x7_1.length : Int) then ((some (x7_1.set (x25_1 : Int).toNat (ji16) : List Int)).bind fun y338 => (if (ji14) > 0 then (if (wrap64 ((ji11) + 1)) < (l0.length : Int) then (if 0 ≤ (wrap64 ((ji11) + 1)) then (if 0 ≤ (IntKind.u64.wrap (64 - (ji14))) then (nat_Shr.l0 k1 l0 (wrap64 (Int.tdiv a1 64)) (ji14) (y338.set (x25_1 : Int).toNat (Go.bits .or .u64 (rd y338 x25_1) (shl .u64 (rd l0 (wrap64 ((ji11) + 1))) (IntKind.u64.wrap (64 - (ji14)))))) (y334.length : Int) (wrap64 (x25_1 + 1))) else (none)) else (none)) else (nat_Shr.l0 k1 l0 (wrap64 (Int.tdiv a1 64)) (ji14) y338 (y334.length : Int) (wrap64 (x25_1 + 1)))) else (nat_Shr.l0 k1 l0 (wrap64 (Int.tdiv a1 64)) (ji14) y338 (y334.length : Int) (wrap64 (x25_1 + 1))))) else (none)) else (none)) = some r := by first | (rw [hji16] at H; exact H) | (simp only [hji16] at H ⊢; exact H)
     have hji16_ : ((rd l0 (ji11)) / 2 ^ min (ji14).toNat 64) = ji16 := hji16
     have hji16z : (ji14) ≤ 64 → ((rd l0 (ji11)) / 2 ^ (ji14).toNat) = ji16 := shr_small hji16
     by_cases c17 : 0 ≤ x25_1
     rotate_left
     ·rw [if_neg c17] at H; cases H
     rw [if_pos c17] at H
     have c17b0 : decide (0 ≤ x25_1) = true := dT c17
     clear c17
     by_cases c18 : x25_1 < (x7_1.length : Int)
     rotate_left
     ·rw [if_neg c18] at H; cases H
     rw [if_pos c18] at H
     have c18b0 : decide (x25_1 < (x7_1.length : Int)) = true := dT c18
     (try simp only [hl7_1] at c18b0)
     clear c18
     obtain ⟨y338, hy338⟩ : ∃ y_ : List Int, y_ = (x7_1.set (x25_1 : Int).toNat (ji16)) := ⟨_, rfl⟩
     replace H : (if (ji14) > 0 then (if (wrap64 ((ji11) + 1)) < (l0.length : Int) then (if 0 ≤ (wrap64 ((ji11) + 1)) then (if 0 ≤ (IntKind.u64.wrap (64 - (ji14))) then (nat_Shr.l0 k1 l0 (wrap64 (Int.tdiv a1 64)) (ji14) (y338.set (x25_1 : Int).toNat (Go.bits .or .u64 (rd y338 x25_1) (shl .u64 (rd l0 (wrap64 ((ji11) + 1))) (IntKind.u64.wrap (64 - (ji14)))))) (y334.length : Int) (wrap64 (x25_1 + 1))) else (none)) else (none)) else (nat_Shr.l0 k1 l0 (wrap64 (Int.tdiv a1 64)) (ji14) y338 (y334.length : Int) (wrap64 (x25_1 + 1)))) else (nat_Shr.l0 k1 l0 (wrap64 (Int.tdiv a1 64)) (ji14) y338 (y334.length : Int) (wrap64 (x25_1 + 1)))) = some r := by first | (rw [hy338]; exact H) | exact H
     have Ny338 := aM hy338
     clear hy338
     by_cases c20 : (ji14) > 0
     ·rw [if_pos c20] at H
      have c20b0 : decide (0 < (ji14)) = true := dT c20
      clear c20
      by_cases c21 : (wrap64 ((ji11) + 1)) < (l0.length : Int)
      ·rw [if_pos c21] at H
       have c21b0 : decide ((wrap64 ((ji11) + 1)) < (l0.length : Int)) = true := dT c21
       (try simp only [hl7_1] at c21b0)
       clear c21
       obtain ⟨ji22, hji22⟩ : ∃ j_ : Int, (wrap64 ((ji11) + 1)) = j_ := ⟨_, rfl⟩
       replace H : (if 0 ≤ (ji22) then (if 0 ≤ (IntKind.u64.wrap (64 - (ji14))) then (nat_Shr.l0 k1 l0 (wrap64 (Int.tdiv a1 64)) (ji14) (y338.set (x25_1 : Int).toNat (Go.bits .or .u64 (rd y338 x25_1) (shl .u64 (rd l0 (ji22)) (IntKind.u64.wrap (64 - (ji14)))))) (y334.length : Int) (wrap64 (x25_1 + 1))) else (none)) else (none)) = some r := by first | (rw [hji22] at H; exact H) | (simp only [hji22] at H ⊢; exact H)
       (try rw [hji22] at c21b0)
       have hji22w : (IntKind.i64.wrap ((ji11) + 1)) = ji22 := (i64_w _).trans hji22
       by_cases c23 : 0 ≤ (ji22)
       rotate_left
       ·rw [if_neg c23] at H; cases H
       rw [if_pos c23] at H
       have c23b0 : decide (0 ≤ (ji22)) = true := dT c23
       clear c23
       obtain ⟨ji24, hji24⟩ : ∃ j_ : Int, (IntKind.u64.wrap (64 - (ji14))) = j_ := ⟨_, rfl⟩
       replace H : (if 0 ≤ (ji24) then (nat_Shr.l0 k1 l0 (wrap64 (Int.tdiv a1 64)) (ji14) (y338.set (x25_1 : Int).toNat (Go.bits .or .u64 (rd y338 x25_1) (shl .u64 (rd l0 (ji22)) (ji24)))) (y334.length : Int) (wrap64 (x25_1 + 1))) else (none)) = some r := by first | (rw [hji24] at H; exact H) | (simp only [hji24] at H ⊢; exact H)
       by_cases c25 : 0 ≤ (ji24)
       rotate_left
       ·rw [if_neg c25] at H; cases H
       rw [if_pos c25] at H
       have c25b0 := eq_true c25
       have c25b1 : decide (0 ≤ (ji24)) = true := dT c25
       clear c25
       obtain ⟨ji26, hji26⟩ : ∃ j_ : Int, (shl .u64 (rd l0 (ji22)) (ji24)) = j_ := ⟨_, rfl⟩
       replace H : (nat_Shr.l0 k1 l0 (wrap64 (Int.tdiv a1 64)) (ji14) (y338.set (x25_1 : Int).toNat (Go.bits .or .u64 (rd y338 x25_1) (ji26))) (y334.length : Int) (wrap64 (x25_1 + 1))) = some r := by first | (rw [hji26] at H; exact H) | (simp only [hji26] at H ⊢; exact H)
       have hji26_ : (IntKind.u64.wrap ((rd l0 (ji22)) * 2 ^ min (ji24).toNat 64)) = ji26 := hji26
       have hji26z : (ji24) ≤ 64 → (IntKind.u64.wrap ((rd l0 (ji22)) * 2 ^ (ji24).toNat)) = ji26 := shl_small hji26
       obtain ⟨y341, hy341⟩ : ∃ y_ : List Int, y_ = (y338.set (x25_1 : Int).toNat (Go.bits .or .u64 (rd y338 x25_1) (ji26))) := ⟨_, rfl⟩
       replace H : (nat_Shr.l0 k1 l0 (wrap64 (Int.tdiv a1 64)) (ji14) y341 (y334.length : Int) (wrap64 (x25_1 + 1))) = some r := by first | (rw [hy341]; exact H) | exact H
       have Ny341 := aM hy341
       clear hy341; have H' := aM H; clear H
       have p337 : 0 ≤ ((ji11) : Int) := oD (by first | (with_reducible assumption) | assumption)
       have q337 : (ji11) < (l0.length : Int) := oD (by first | (with_reducible assumption) | assumption)
       obtain ⟨ad337, e337, hx337_0⟩ := Kd.at_int HR0.out (ji11) p337 q337
       cases e337
       replace hx337_0 := (HB.out.cell (wL w _ hx337_0)).trans hx337_0
       replace p337 := eq_true p337
       replace q337 := eq_true q337
       have p19 : 0 ≤ (x25_1 : Int) := oD (by first | (with_reducible assumption) | assumption)
       have q19 : (x25_1 : Int) < ((x7_1.length : Int) : Int) := oD (by first | (with_reducible assumption) | assumption)
       obtain ⟨go19, co19, eo19, gb19, gl19, cl19, HG19⟩ := Kd.R_form HO_7.out (by omega)
       (first | cases eo19 | (injection eo19 with ea_ en_ ec_; (first | subst ea_ | (injection ea_ with ea_; subst ea_)); subst ec_; clear en_))
       have GB19 := aM gb19
       have GG19 := aM HG19
       clear gb19 gl19 HG19
       obtain ⟨hx19_0, hf19_0⟩ := Kd.R_celln 0 HO_7.out (x25_1 : Int) p19 q19
       replace p19 := eq_true p19
       replace q19 := eq_true q19
       have HP28 := Kd.R_putg HO_7.out (x25_1 : Int) ji16
       try go_wp2_with (first | ((with_reducible refine gate_store (t := 65) (p := 38) rfl ?_); refine store_event (t := 65) (p := 38) (v := ?vo_w29) (w1 := (wr.setCell ⟨go19, (x25_1 : Int).toNat, none⟩ (.int .u64 ji16))) ?hg ?ho ?hn ?hr ?_; (case ho => rfl); (case hg => rfl); (case hn => rfl); (case hr => first | (go_simp; done) | (go_simp; rfl)); intro w29 hw; have hg : wr.grownBy w29 (some go19) := (by rw [hw]; exact HP28.2); have hp_ : Kd.R (Kd.int .u64) 65 w29 w.heap.size (fun _ => True) (.slice (some ⟨go19, 0, none⟩) x7_1.length co9) y338 := (by rw [hw, Ny338.out]; exact HP28.1); clear HP28; have n0_ := aM (hp_); have n1_ := aM ((by rw [hw]; exact bE (HB.out) GB19.out : Below w.heap.size w w29)); clear HO_7 HB; have HO_7 := n0_; have HB := n1_; clear n0_ n1_ hg hw hp_))
       have n0_ := aM (rD HO_7.out); have n1_ := aM (bD HB.out); clear HO_7 HB; have HO_7 := n0_; have HB := n1_; clear n0_ n1_
       have p339 : 0 ≤ (x25_1 : Int) := oD (by first | (with_reducible assumption) | assumption)
       have q339 : x25_1 < (y338.length : Int) := (by have h_ : (x25_1 : Int) < ((x7_1.length : Int) : Int) := oD (by first | (with_reducible assumption) | assumption); first | (have e_ := (rS HO_7.out).1; omega) | simpa only [Ny338.out, List.length_set, length_cpy] using h_)
       have ql339 : ((x25_1 : Int) < ((x7_1.length : Int) : Int)) = True := eq_true (oD (by first | (with_reducible assumption) | assumption))
       obtain ⟨ad339, e339, hx339_0⟩ := Kd.at_int (rS HO_7.out).2.2 x25_1 p339 q339
       obtain rfl : (⟨go19, 0, none⟩ : Addr) = ad339 := (by injection e339)
       (first | simp only [add_plain] at hx339_0 | simp only [add_at] at hx339_0 | simp only [Addr.add, Nat.zero_add] at hx339_0 | skip)
       replace p339 := eq_true p339
       replace q339 := eq_true q339
       have p340 : 0 ≤ ((ji22) : Int) := oD (by first | (with_reducible assumption) | assumption)
       have q340 : (ji22) < (l0.length : Int) := oD (by first | (with_reducible assumption) | assumption)
       obtain ⟨ad340, e340, hx340_0⟩ := Kd.at_int HR0.out (ji22) p340 q340
       have hw340_0 := hx340_0
       obtain rfl : ad337 = ad340 := (by injection e340)
       replace hx340_0 := (HB.out.cell (wL w _ hx340_0)).trans hx340_0
       replace p340 := eq_true p340
       replace q340 := eq_true q340
       have p27 : 0 ≤ (x25_1 : Int) := oD (by first | (with_reducible assumption) | assumption)
       have q27 : (x25_1 : Int) < ((x7_1.length : Int) : Int) := oD (by first | (with_reducible assumption) | assumption)
       obtain ⟨hx27_0, hf27_0⟩ := Kd.R_celln 0 HO_7.out (x25_1 : Int) p27 q27
       replace p27 := eq_true p27
       replace q27 := eq_true q27
       have HP31 := Kd.R_putn HO_7.out (x25_1 : Int) (Go.bits .or .u64 (rd y338 x25_1) (ji26))
       rw [← Ny341.out] at HP31
       have HQ31 := aM HP31
       clear HP31
       refine start_ (n := 17) (S := fun w' => w'.cell? ⟨go19, (x25_1).toNat, none⟩ = some (.int .u64 (rd y338 x25_1)) ∧ w'.cell? (ad337.add ((ji22)).toNat) = some (.int .u64 (rd l0 (ji22)))) (ds := [16]) #[false, false, false, false, false, false, false, false, false, false, false, false, false, false, false, false, false] (by kernel_rfl) rfl rfl ⟨hx339_0, ((HB.out.cell (wL w _ hw340_0)).trans hw340_0)⟩ (fun hHeld => ?_); refine with_tabW nat_Shr.tab10 nat_Shr.bits10 (fun HT_ HW_ => ?_)
       generalize w29.drew = w30 at HO_7 HB HQ31 hf27_0 hx27_0 hx339_0 hx340_0 hHeld ⊢
       refine pure_ (i := 0) (N := some 50) (v := ?_) (a' := ?_) #[true, false, false, false, false, false, false, false, false, false, false, false, false, false, false, false, false] rfl rfl (any_of HT_.out (by kernel_rfl)) (fun _ _ _ h => h) (Or.inl ⟨by rfl, ?_⟩) ?_ ?_
       rotate_left
       ·intro w'
        go_simp
        with_reducible rfl
       rotate_left
       ·simp only [Act.put, sI, sZ, sS, i64_w]
        rfl
       refine pure_ (i := 1) (N := some 51) (v := ?_) (a' := ?_) #[true, true, false, false, false, false, false, false, false, false, false, false, false, false, false, false, false] rfl rfl (any_of HT_.out (by kernel_rfl)) (fun _ _ _ h => h) (Or.inl ⟨by rfl, ?_⟩) ?_ ?_
       rotate_left
       ·intro w'
        go_simp
        with_reducible rfl
       rotate_left
       ·simp only [Act.put, sI, sZ, sS, i64_w]
        rfl
       refine pure_ (i := 2) (N := some 52) (v := ?_) (a' := ?_) #[true, true, true, false, false, false, false, false, false, false, false, false, false, false, false, false, false] rfl rfl (any_of HT_.out (by kernel_rfl)) (fun _ _ _ h => h) (Or.inl ⟨by rfl, ?_⟩) ?_ ?_
       rotate_left
       ·intro w'
        go_simp
        with_reducible rfl
       rotate_left
       ·simp only [Act.put, sI, sZ, sS, i64_w]
        rfl
       refine pure_ (i := 4) (N := some 54) (v := ?_) (a' := ?_) #[true, true, true, false, true, false, false, false, false, false, false, false, false, false, false, false, false] rfl rfl (any_of HT_.out (by kernel_rfl)) (fun _ _ _ h => h) (Or.inl ⟨by rfl, ?_⟩) ?_ ?_
       rotate_left
       ·intro w'
        go_simp
        with_reducible rfl
       rotate_left
       ·simp only [Act.put, sI, sZ, sS, i64_w]
        rfl
       refine pure_ (i := 5) (N := some 55) (v := ?_) (a' := ?_) #[true, true, true, false, true, true, false, false, false, false, false, false, false, false, false, false, false] rfl rfl (any_of HT_.out (by kernel_rfl)) (fun _ _ _ h => h) (Or.inl ⟨by rfl, ?_⟩) ?_ ?_
       rotate_left
       ·intro w'
        go_simp
        with_reducible rfl
       rotate_left
       ·simp only [Act.put, sI, sZ, sS, i64_w]
        rfl
       refine pure_ (i := 6) (N := some 56) (v := ?_) (a' := ?_) #[true, true, true, false, true, true, true, false, false, false, false, false, false, false, false, false, false] rfl rfl (any_of HT_.out (by kernel_rfl)) (fun _ _ _ h => h) (Or.inl ⟨by rfl, ?_⟩) ?_ ?_
       rotate_left
       ·intro w'
        go_simp
        with_reducible rfl
       rotate_left
       ·simp only [Act.put, sI, sZ, sS, i64_w]
        rfl
       refine pure_ (i := 7) (N := some 57) (v := ?_) (a' := ?_) #[true, true, true, false, true, true, true, true, false, false, false, false, false, false, false, false, false] rfl rfl (any_of HT_.out (by kernel_rfl)) (fun _ _ _ h => h) (Or.inl ⟨by rfl, ?_⟩) ?_ ?_
       rotate_left
       ·intro w'
        go_simp
        with_reducible rfl
       rotate_left
       ·simp only [Act.put, sI, sZ, sS, i64_w]
        rfl
       refine pure_ (i := 8) (N := some 58) (v := ?_) (a' := ?_) #[true, true, true, false, true, true, true, true, true, false, false, false, false, false, false, false, false] rfl rfl (any_of HT_.out (by kernel_rfl)) (fun _ _ _ h => h) (Or.inl ⟨by rfl, ?_⟩) ?_ ?_
       rotate_left
       ·intro w'
        go_simp
        with_reducible rfl
       rotate_left
       ·simp only [Act.put, sI, sZ, sS, i64_w]
        rfl
       refine pure_ (i := 9) (N := some 59) (v := ?_) (a' := ?_) #[true, true, true, false, true, true, true, true, true, true, false, false, false, false, false, false, false] rfl rfl (any_of HT_.out (by kernel_rfl)) (fun _ _ _ h => h) (Or.inl ⟨by rfl, ?_⟩) ?_ ?_
       rotate_left
       ·intro w'
        go_simp
        with_reducible rfl
       rotate_left
       ·simp only [Act.put, sI, sZ, sS, i64_w]
        rfl
       refine pure_ (i := 11) (N := some 61) (v := ?_) (a' := ?_) #[true, true, true, false, true, true, true, true, true, true, false, true, false, false, false, false, false] rfl rfl (any_of HT_.out (by kernel_rfl)) (fun _ _ _ h => h) (Or.inl ⟨by rfl, ?_⟩) ?_ ?_
       rotate_left
       ·intro w'
        go_simp
        with_reducible rfl
       rotate_left
       ·simp only [Act.put, sI, sZ, sS, i64_w]
        rfl
       refine pure_ (i := 12) (N := some 62) (v := ?_) (a' := ?_) #[true, true, true, false, true, true, true, true, true, true, false, true, true, false, false, false, false] rfl rfl (any_of HT_.out (by kernel_rfl)) (fun _ _ _ h => h) (Or.inl ⟨by rfl, ?_⟩) ?_ ?_
       rotate_left
       ·intro w'
        go_simp
        with_reducible rfl
       rotate_left
       ·simp only [Act.put, sI, sZ, sS, i64_w]
        rfl
       refine take_ (i := 3) (N := some 53) (v := ?_) (a' := ?_) #[true, true, true, true, true, true, true, true, true, true, false, true, true, false, false, false, false] rfl rfl (take_ofW HT_.out HW_.out (by kernel_rfl)) (fun _ _ _ h => h) (Or.inl ⟨by rfl, ?_⟩) hHeld ?_ ?_
       rotate_left
       ·rintro w' ⟨s0, s1⟩
        go_simp
        with_reducible rfl
       rotate_left
       ·simp only [Act.put, sI, sZ, sS, i64_w]
        rfl
       refine take_ (i := 10) (N := some 60) (v := ?_) (a' := ?_) #[true, true, true, true, true, true, true, true, true, true, true, true, true, false, false, false, false] rfl rfl (take_ofW HT_.out HW_.out (by kernel_rfl)) (fun _ _ _ h => h) (Or.inl ⟨by rfl, ?_⟩) hHeld ?_ ?_
       rotate_left
       ·rintro w' ⟨s0, s1⟩
        go_simp
        with_reducible rfl
       rotate_left
       ·simp only [Act.put, sI, sZ, sS, i64_w]
        rfl
       refine pure_ (i := 13) (N := some 63) (v := ?_) (a' := ?_) #[true, true, true, true, true, true, true, true, true, true, true, true, true, true, false, false, false] rfl rfl (any_of HT_.out (by kernel_rfl)) (fun _ _ _ h => h) (Or.inl ⟨by rfl, ?_⟩) ?_ ?_
       rotate_left
       ·intro w'
        go_simp
        with_reducible rfl
       rotate_left
       ·simp only [Act.put, sI, sZ, sS, i64_w]
        rfl
       refine pure_ (i := 14) (N := some 64) (v := ?_) (a' := ?_) #[true, true, true, true, true, true, true, true, true, true, true, true, true, true, true, false, false] rfl rfl (any_of HT_.out (by kernel_rfl)) (fun _ _ _ h => h) (Or.inl ⟨by rfl, ?_⟩) ?_ ?_
       rotate_left
       ·intro w'
        go_simp
        with_reducible rfl
       rotate_left
       ·simp only [Act.put, sI, sZ, sS, i64_w]
        rfl
       refine pure_ (i := 15) (N := some 65) (v := ?_) (a' := ?_) #[true, true, true, true, true, true, true, true, true, true, true, true, true, true, true, true, false] rfl rfl (any_of HT_.out (by kernel_rfl)) (fun _ _ _ h => h) (Or.inl ⟨by rfl, ?_⟩) ?_ ?_
       rotate_left
       ·intro w'
        go_simp
        with_reducible rfl
       rotate_left
       ·simp only [Act.put, sI, sZ, sS, i64_w]
        rfl
       refine last_ (i := 16) (N := none) #[true, true, true, true, true, true, true, true, true, true, true, true, true, true, true, true, true] rfl rfl (one_of HT_.out (by kernel_rfl)) (by decide) (fun K hK => ?_)
       refine skip_ (w1 := ?_) (by rfl) rfl ?_ ?_
       rotate_left
       ·go_simp
        rfl
       refine hK.out _ _ ?_
       clear hK K
       refine done_ (done_of HT_.out (by kernel_rfl)) ?_
       try go_wp2
       (try simp only [← hl7_1])
       (try simp only [← hji14])
       go_roundg k1
       case measure => have := HK1.out; omega
       case rel => exact ⟨(y341), (wrap64 (x25_1 + 1)), (by first | rfl | (simp; done) | (simp [*]; done)), (by first | exact H' | (have h_ := H'; simp only [← hji4, ← hji11, ← hji14, ← hji16, ← hji22, ← hji24, ← hji26] at h_; exact h_)), ⟨by have := HK1.out; omega⟩, ⟨by (try simp only [hl7_1]); (with_reducible repeat (first | apply rN | apply rD)); exact HQ31.out⟩, ⟨by repeat (first | (with_reducible first | exact HB.out | apply bA | apply pN | apply bD | refine bE ?_ GB19.out) | exact HB.out)⟩⟩
      ·rw [if_neg c21] at H
       have c21b0 : decide ((wrap64 ((ji11) + 1)) < (l0.length : Int)) = false := decide_eq_false c21
       (try simp only [hl7_1] at c21b0)
       clear c21; have H' := aM H; clear H
       have p337 : 0 ≤ ((ji11) : Int) := oD (by first | (with_reducible assumption) | assumption)
       have q337 : (ji11) < (l0.length : Int) := oD (by first | (with_reducible assumption) | assumption)
       obtain ⟨ad337, e337, hx337_0⟩ := Kd.at_int HR0.out (ji11) p337 q337
       cases e337
       replace hx337_0 := (HB.out.cell (wL w _ hx337_0)).trans hx337_0
       replace p337 := eq_true p337
       replace q337 := eq_true q337
       have p19 : 0 ≤ (x25_1 : Int) := oD (by first | (with_reducible assumption) | assumption)
       have q19 : (x25_1 : Int) < ((x7_1.length : Int) : Int) := oD (by first | (with_reducible assumption) | assumption)
       obtain ⟨go19, co19, eo19, gb19, gl19, cl19, HG19⟩ := Kd.R_form HO_7.out (by omega)
       (first | cases eo19 | (injection eo19 with ea_ en_ ec_; (first | subst ea_ | (injection ea_ with ea_; subst ea_)); subst ec_; clear en_))
       have GB19 := aM gb19
       have GG19 := aM HG19
       clear gb19 gl19 HG19
       obtain ⟨hx19_0, hf19_0⟩ := Kd.R_celln 0 HO_7.out (x25_1 : Int) p19 q19
       replace p19 := eq_true p19
       replace q19 := eq_true q19
       have HP32 := Kd.R_putg HO_7.out (x25_1 : Int) ji16
       go_wp2_with (first | ((with_reducible refine gate_store (t := 65) (p := 38) rfl ?_); refine store_event (t := 65) (p := 38) (v := ?vo_w33) (w1 := (wr.setCell ⟨go19, (x25_1 : Int).toNat, none⟩ (.int .u64 ji16))) ?hg ?ho ?hn ?hr ?_; (case ho => rfl); (case hg => rfl); (case hn => rfl); (case hr => first | (go_simp; done) | (go_simp; rfl)); intro w33 hw; have hg : wr.grownBy w33 (some go19) := (by rw [hw]; exact HP32.2); have hp_ : Kd.R (Kd.int .u64) 65 w33 w.heap.size (fun _ => True) (.slice (some ⟨go19, 0, none⟩) x7_1.length co9) y338 := (by rw [hw, Ny338.out]; exact HP32.1); clear HP32; have n0_ := aM (hp_); have n1_ := aM ((by rw [hw]; exact bE (HB.out) GB19.out : Below w.heap.size w w33)); clear HO_7 HB; have HO_7 := n0_; have HB := n1_; clear n0_ n1_ hg hw hp_))
       (try simp only [← hl7_1])
       (try simp only [← hji14])
       go_roundg k1
       case measure => have := HK1.out; omega
       case rel => exact ⟨(y338), (wrap64 (x25_1 + 1)), (by first | rfl | (simp; done) | (simp [*]; done)), (by first | exact H' | (have h_ := H'; simp only [← hji4, ← hji11, ← hji14, ← hji16] at h_; exact h_)), ⟨by have := HK1.out; omega⟩, ⟨by (try simp only [hl7_1]); (with_reducible repeat (first | apply rN | apply rD)); exact HO_7.out⟩, ⟨by apply_rules [HB.out, bA, pN, bD]⟩⟩
     ·rw [if_neg c20] at H
      have c20b0 : decide (0 < (ji14)) = false := decide_eq_false c20
      clear c20; have H' := aM H; clear H
      have p337 : 0 ≤ ((ji11) : Int) := oD (by first | (with_reducible assumption) | assumption)
      have q337 : (ji11) < (l0.length : Int) := oD (by first | (with_reducible assumption) | assumption)
      obtain ⟨ad337, e337, hx337_0⟩ := Kd.at_int HR0.out (ji11) p337 q337
      cases e337
      replace hx337_0 := (HB.out.cell (wL w _ hx337_0)).trans hx337_0
      replace p337 := eq_true p337
      replace q337 := eq_true q337
      have p19 : 0 ≤ (x25_1 : Int) := oD (by first | (with_reducible assumption) | assumption)
      have q19 : (x25_1 : Int) < ((x7_1.length : Int) : Int) := oD (by first | (with_reducible assumption) | assumption)
      obtain ⟨go19, co19, eo19, gb19, gl19, cl19, HG19⟩ := Kd.R_form HO_7.out (by omega)
      (first | cases eo19 | (injection eo19 with ea_ en_ ec_; (first | subst ea_ | (injection ea_ with ea_; subst ea_)); subst ec_; clear en_))
      have GB19 := aM gb19
      have GG19 := aM HG19
      clear gb19 gl19 HG19
      obtain ⟨hx19_0, hf19_0⟩ := Kd.R_celln 0 HO_7.out (x25_1 : Int) p19 q19
      replace p19 := eq_true p19
      replace q19 := eq_true q19
      have HP34 := Kd.R_putg HO_7.out (x25_1 : Int) ji16
      go_wp2_with (first | ((with_reducible refine gate_store (t := 65) (p := 38) rfl ?_); refine store_event (t := 65) (p := 38) (v := ?vo_w35) (w1 := (wr.setCell ⟨go19, (x25_1 : Int).toNat, none⟩ (.int .u64 ji16))) ?hg ?ho ?hn ?hr ?_; (case ho => rfl); (case hg => rfl); (case hn => rfl); (case hr => first | (go_simp; done) | (go_simp; rfl)); intro w35 hw; have hg : wr.grownBy w35 (some go19) := (by rw [hw]; exact HP34.2); have hp_ : Kd.R (Kd.int .u64) 65 w35 w.heap.size (fun _ => True) (.slice (some ⟨go19, 0, none⟩) x7_1.length co9) y338 := (by rw [hw, Ny338.out]; exact HP34.1); clear HP34; have n0_ := aM (hp_); have n1_ := aM ((by rw [hw]; exact bE (HB.out) GB19.out : Below w.heap.size w w35)); clear HO_7 HB; have HO_7 := n0_; have HB := n1_; clear n0_ n1_ hg hw hp_))
      (try simp only [← hl7_1])
      (try simp only [← hji14])
      go_roundg k1
      case measure => have := HK1.out; omega
      case rel => exact ⟨(y338), (wrap64 (x25_1 + 1)), (by first | rfl | (simp; done) | (simp [*]; done)), (by first | exact H' | (have h_ := H'; simp only [← hji4, ← hji11, ← hji14, ← hji16] at h_; exact h_)), ⟨by have := HK1.out; omega⟩, ⟨by (try simp only [hl7_1]); (with_reducible repeat (first | apply rN | apply rD)); exact HO_7.out⟩, ⟨by apply_rules [HB.out, bA, pN, bD]⟩⟩
    ·rw [if_neg c10] at H
     have c10b0 : decide (x25_1 < (y334.length : Int)) = false := decide_eq_false c10
     (try simp only [hl7_1] at c10b0)
     clear c10
     replace H := oB H
     obtain ⟨t342, A360, H⟩ := H
     replace H : (some t342) = some r := H
     have A36 := aM A360; clear A360
     obtain rfl := Option.some.inj H
     go_wp2_with (first | ((with_reducible refine gC (f := 29) rfl ?_); refine gL (some 68) rfl rfl Try.func29 (by kernel_rfl) rfl #[.slice Ao9 x7_1.length co9] rfl (by (try simp only [mA, mC, mN]); first | done | rfl | (simp only [lD, lT]; rfl)) ?_; (with_reducible refine (nat_cut.calls k1 (fun k_ => some k_ = (.slice Ao9 x7_1.length co9 : Value).ownBlock) (.slice Ao9 x7_1.length co9) x7_1 t342 w _ ?side1 ?side2 A36.out).mono ?_); (case side1 => repeat (first | (with_reducible first | exact HB.out | apply bA | apply pN | apply bD) | exact HB.out)); (case side2 => exact Kd.R_tight rfl HO_7.out); rintro e w37 ⟨v343, rfl, ho0, hb, hkp⟩; refine ⟨_, rfl, ?_⟩; have n0_ := aM (Kd.R_mono (ok' := fun k_ => True) ho0 (fun k_ hk_ => trivial)); have n1_ := aM (hb); clear HB HO_7; have HO344 := n0_; have HB := n1_; clear n0_ n1_; (try clear hb); (try clear hkp); (try clear ho0)))
     go_ret
     exact ⟨_, by first | rfl | (simp [errW_none, errW_some] <;> rfl) | (simp only [← hji4]; first | rfl | (simp [errW_none, errW_some] <;> rfl)) | (simp [*, errW_none, errW_some] <;> rfl), by (with_reducible repeat (first | apply rN | apply rD)); exact HO344.out, by apply_rules [HB.out, bA, pN, bD]⟩
end Go.Proofs.Ytaoekkikpceccaa.QLoadAdmitKeepsTheLimit
