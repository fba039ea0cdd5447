/- Lean functions that answer as Go functions of this seat do, each with its proof. Condition: the Lean function answers 'some'. -/
import Derived.Test.YtaoekkikpceccaaLx0
namespace Go.Proofs.Ytaoekkikpceccaa.QLoadAdmitKeepsTheLimit
open Go.RowKit Go.Proofs.YtaoekkikpceccaaW.PrintWords Go.Proofs.YtaoekkikpceccaaW.PrintLast Go.Proofs.YtaoekkikpceccaaW.PrintMore
attribute [local go_sem] max2_int min2_int max_two min_two
set_option linter.unusedVariables false
set_option maxHeartbeats 8000000
set_option maxRecDepth 100000
set_option linter.unusedSimpArgs false
def dynamometerref0_Cmp.l0 : Nat → List Int → List Int → Int → Option (Int)
 | 0, _, _, _ => none
 | k + 1, x0, x1, x5 => if x5 ≥ 0 then (if 0 ≤ x5 then (if x5 < (x0.length : Int) then (if x5 < (x1.length : Int) then (if (rd x0 x5) < (rd x1 x5) then (some (-1)) else (if (rd x0 x5) > (rd x1 x5) then (some 1) else (dynamometerref0_Cmp.l0 k x0 x1 (wrap64 (x5 - 1))))) else (none)) else (none)) else (none)) else (some 0)
def dynamometerref0_Cmp.f (k : Nat) (l0 : List Int) (l1 : List Int) : Option (Int) := if (l0.length : Int) = (l1.length : Int) then (dynamometerref0_Cmp.l0 k l0 l1 (wrap64 ((l0.length : Int) - 1))) else (if (l0.length : Int) < (l1.length : Int) then (some (-1)) else (some 1))
theorem dynamometerref0_Cmp.calls (k : Nat) (A0 : Option Addr) (c0 : Nat) (l0 : List Int) (A1 : Option Addr) (c1 : Nat) (l1 : List Int) (r : Int) (w : World) (hr0 : Kd.C (Kd.int .i64) w A0 l0.length l0) (hc0 : l0.length ≤ c0) (hr1 : Kd.C (Kd.int .i64) w A1 l1.length l1) (hc1 : l1.length ≤ c1) (h : dynamometerref0_Cmp.f k l0 l1 = some r) :
  Calls Try.prog 9 #[.slice A0 l0.length c0, .slice A1 l1.length c1] w fun e w' => e = .returned (.int .i64 r) ∧ Drawn0 w w' := by
 have HR0 := aM hr0
 have HC0 := aM hc0
 clear hr0 hc0
 have HR1 := aM hr1
 have HC1 := aM hc1
 clear hr1 hc1
 have H : (if (l0.length : Int) = (l1.length : Int) then (dynamometerref0_Cmp.l0 k l0 l1 (wrap64 ((l0.length : Int) - 1))) else (if (l0.length : Int) < (l1.length : Int) then (some (-1)) else (some 1))) = some r := h
 clear h
 by_cases c3 : (l0.length : Int) = (l1.length : Int)
 ·rw [if_pos c3] at H
  have c3b0 : ((l0.length : Int) == (l1.length : Int)) = true := beq_iff_eq.mpr c3
  have c3b1 : ((l0.length : Int) != (l1.length : Int)) = false := bne_eq_false_iff_eq.mpr c3
  have c3b2 : (l0.length == l1.length) = true := by first | simpa using c3 | (simp at c3 ⊢; omega)
  clear c3; have H' := aM H; clear H
  go_enter Try.func9, Try.ntmps9
  go_wp2
  repeat (go_quiet (fail); try go_wp2)
  go_loopg [5] k (fun kq v5 w' => ∃ (x5_1 : Int), v5 = .int .i64 x5_1 ∧ Aside0 (dynamometerref0_Cmp.l0 kq l0 l1 x5_1 = some r) ∧ Aside0 (kq ≤ k) ∧ Drawn0 w w')
  case atStart => exact ⟨(wrap64 ((l0.length : Int) - 1)), (by first | rfl | (simp; done) | (simp [*]; done)), H', ⟨Nat.le_refl _⟩, by repeat (first | exact Drawn0.refl _ | apply Drawn0.step)⟩
  case round =>
   clear H'
   try clear c1
   try clear p2
   try clear c3
   try clear c3b0
   try clear c3b1
   try clear c3b2
   obtain ⟨x5_1, rfl, HA, HK1, ⟨m1, rfl⟩⟩ := hrel
   cases gk with
   | zero => exact absurd HA.out (by simp [dynamometerref0_Cmp.l0])
   | succ k1 =>
    have H := HA.out
    clear HA
    simp only [dynamometerref0_Cmp.l0] at H
    by_cases c4 : x5_1 ≥ 0
    ·rw [if_pos c4] at H
     have c4b0 : decide (0 ≤ x5_1) = true := dT c4
     clear c4
     by_cases c5 : 0 ≤ x5_1
     rotate_left
     ·rw [if_neg c5] at H; cases H
     rw [if_pos c5] at H
     have c5b0 : decide (0 ≤ x5_1) = true := dT c5
     clear c5
     by_cases c6 : x5_1 < (l0.length : Int)
     rotate_left
     ·rw [if_neg c6] at H; cases H
     rw [if_pos c6] at H
     have c6b0 : decide (x5_1 < (l0.length : Int)) = true := dT c6
     clear c6
     by_cases c7 : x5_1 < (l1.length : Int)
     rotate_left
     ·rw [if_neg c7] at H; cases H
     rw [if_pos c7] at H
     have c7b0 : decide (x5_1 < (l1.length : Int)) = true := dT c7
     clear c7
     by_cases c8 : (rd l0 x5_1) < (rd l1 x5_1)
     ·rw [if_pos c8] at H
      have c8b0 : decide ((rd l0 x5_1) < (rd l1 x5_1)) = true := dT c8
      clear c8
      obtain rfl := Option.some.inj H
      have p527 : 0 ≤ (x5_1 : Int) := oD (by first | (with_reducible assumption) | assumption)
      have q527 : x5_1 < (l0.length : Int) := oD (by first | (with_reducible assumption) | assumption)
      obtain ⟨ad527, e527, hx527_0⟩ := Kd.at_int HR0.out x5_1 p527 q527
      cases e527
      replace p527 := eq_true p527
      replace q527 := eq_true q527
      have p528 : 0 ≤ (x5_1 : Int) := oD (by first | (with_reducible assumption) | assumption)
      have q528 : x5_1 < (l1.length : Int) := oD (by first | (with_reducible assumption) | assumption)
      obtain ⟨ad528, e528, hx528_0⟩ := Kd.at_int HR1.out x5_1 p528 q528
      cases e528
      replace p528 := eq_true p528
      replace q528 := eq_true q528
      go_wp2
      repeat (go_quiet (fail); try go_wp2)
      go_ret
      exact ⟨by first | rfl | (simp; done) | (simp [*]; done), by repeat (first | exact Drawn0.refl _ | apply Drawn0.step)⟩
     ·rw [if_neg c8] at H
      have c8b0 : decide ((rd l0 x5_1) < (rd l1 x5_1)) = false := decide_eq_false c8
      clear c8
      by_cases c9 : (rd l0 x5_1) > (rd l1 x5_1)
      ·rw [if_pos c9] at H
       have c9b0 : decide ((rd l1 x5_1) < (rd l0 x5_1)) = true := dT c9
       clear c9
       obtain rfl := Option.some.inj H
       have p527 : 0 ≤ (x5_1 : Int) := oD (by first | (with_reducible assumption) | assumption)
       have q527 : x5_1 < (l0.length : Int) := oD (by first | (with_reducible assumption) | assumption)
       obtain ⟨ad527, e527, hx527_0⟩ := Kd.at_int HR0.out x5_1 p527 q527
       cases e527
       replace p527 := eq_true p527
       replace q527 := eq_true q527
       have p528 : 0 ≤ (x5_1 : Int) := oD (by first | (with_reducible assumption) | assumption)
       have q528 : x5_1 < (l1.length : Int) := oD (by first | (with_reducible assumption) | assumption)
       obtain ⟨ad528, e528, hx528_0⟩ := Kd.at_int HR1.out x5_1 p528 q528
       cases e528
       replace p528 := eq_true p528
       replace q528 := eq_true q528
       have p529 : 0 ≤ (x5_1 : Int) := oD (by first | (with_reducible assumption) | assumption)
       have q529 : x5_1 < (l0.length : Int) := oD (by first | (with_reducible assumption) | assumption)
       obtain ⟨ad529, e529, hx529_0⟩ := Kd.at_int HR0.out x5_1 p529 q529
       obtain rfl : ad527 = ad529 := (by injection e529)
       replace p529 := eq_true p529
       replace q529 := eq_true q529
       have p530 : 0 ≤ (x5_1 : Int) := oD (by first | (with_reducible assumption) | assumption)
       have q530 : x5_1 < (l1.length : Int) := oD (by first | (with_reducible assumption) | assumption)
       obtain ⟨ad530, e530, hx530_0⟩ := Kd.at_int HR1.out x5_1 p530 q530
       obtain rfl : ad528 = ad530 := (by injection e530)
       replace p530 := eq_true p530
       replace q530 := eq_true q530
       go_wp2
       repeat (go_quiet (fail); try go_wp2)
       go_ret
       exact ⟨by first | rfl | (simp; done) | (simp [*]; done), by repeat (first | exact Drawn0.refl _ | apply Drawn0.step)⟩
      ·rw [if_neg c9] at H
       have c9b0 : decide ((rd l1 x5_1) < (rd l0 x5_1)) = false := decide_eq_false c9
       clear c9; have H' := aM H; clear H
       have p527 : 0 ≤ (x5_1 : Int) := oD (by first | (with_reducible assumption) | assumption)
       have q527 : x5_1 < (l0.length : Int) := oD (by first | (with_reducible assumption) | assumption)
       obtain ⟨ad527, e527, hx527_0⟩ := Kd.at_int HR0.out x5_1 p527 q527
       cases e527
       replace p527 := eq_true p527
       replace q527 := eq_true q527
       have p528 : 0 ≤ (x5_1 : Int) := oD (by first | (with_reducible assumption) | assumption)
       have q528 : x5_1 < (l1.length : Int) := oD (by first | (with_reducible assumption) | assumption)
       obtain ⟨ad528, e528, hx528_0⟩ := Kd.at_int HR1.out x5_1 p528 q528
       cases e528
       replace p528 := eq_true p528
       replace q528 := eq_true q528
       have p529 : 0 ≤ (x5_1 : Int) := oD (by first | (with_reducible assumption) | assumption)
       have q529 : x5_1 < (l0.length : Int) := oD (by first | (with_reducible assumption) | assumption)
       obtain ⟨ad529, e529, hx529_0⟩ := Kd.at_int HR0.out x5_1 p529 q529
       obtain rfl : ad527 = ad529 := (by injection e529)
       replace p529 := eq_true p529
       replace q529 := eq_true q529
       have p530 : 0 ≤ (x5_1 : Int) := oD (by first | (with_reducible assumption) | assumption)
       have q530 : x5_1 < (l1.length : Int) := oD (by first | (with_reducible assumption) | assumption)
       obtain ⟨ad530, e530, hx530_0⟩ := Kd.at_int HR1.out x5_1 p530 q530
       obtain rfl : ad528 = ad530 := (by injection e530)
       replace p530 := eq_true p530
       replace q530 := eq_true q530
       go_wp2
       repeat (go_quiet (fail); try go_wp2)
       go_roundg k1
       case measure => have := HK1.out; omega
       case rel => exact ⟨(wrap64 (x5_1 - 1)), (by first | rfl | (simp; done) | (simp [*]; done)), H', ⟨by have := HK1.out; omega⟩, by repeat (first | exact Drawn0.refl _ | apply Drawn0.step)⟩
    ·rw [if_neg c4] at H
     have c4b0 : decide (0 ≤ x5_1) = false := decide_eq_false c4
     clear c4
     obtain rfl := Option.some.inj H
     go_wp2
     repeat (go_quiet (fail); try go_wp2)
     go_ret
     exact ⟨by first | rfl | (simp; done) | (simp [*]; done), by repeat (first | exact Drawn0.refl _ | apply Drawn0.step)⟩
 ·rw [if_neg c3] at H
  have c3b0 : ((l0.length : Int) == (l1.length : Int)) = false := beq_eq_false_iff_ne.mpr c3
  have c3b1 : ((l0.length : Int) != (l1.length : Int)) = true := bne_iff_ne.mpr c3
  have c3b2 : (l0.length == l1.length) = false := by first | simpa using c3 | (simp at c3 ⊢; omega)
  by_cases c10 : (l0.length : Int) < (l1.length : Int)
  ·rw [if_pos c10] at H
   have c10b0 : decide ((l0.length : Int) < (l1.length : Int)) = true := dT c10
   have c10b1 : decide (l0.length < l1.length) = true := dT (Int.ofNat_lt.mp c10)
   clear c10
   obtain rfl := Option.some.inj H
   go_enter Try.func9, Try.ntmps9
   go_wp2
   repeat (go_quiet (fail); try go_wp2)
   go_ret
   exact ⟨by first | rfl | (simp; done) | (simp [*]; done), by repeat (first | exact Drawn0.refl _ | apply Drawn0.step)⟩
  ·rw [if_neg c10] at H
   have c10b0 : decide ((l0.length : Int) < (l1.length : Int)) = false := decide_eq_false c10
   have c10b1 : decide (l0.length < l1.length) = false := decide_eq_false (fun h => c10 (Int.ofNat_lt.mpr h))
   clear c10
   obtain rfl := Option.some.inj H
   go_enter Try.func9, Try.ntmps9
   go_wp2
   repeat (go_quiet (fail); try go_wp2)
   go_ret
   exact ⟨by first | rfl | (simp; done) | (simp [*]; done), by repeat (first | exact Drawn0.refl _ | apply Drawn0.step)⟩
end Go.Proofs.Ytaoekkikpceccaa.QLoadAdmitKeepsTheLimit
