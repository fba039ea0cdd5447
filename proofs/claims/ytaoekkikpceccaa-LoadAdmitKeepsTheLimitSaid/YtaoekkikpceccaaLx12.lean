/- Lean functions that answer as Go functions of this seat do, each with its proof. Condition: the Lean function answers 'some'. -/
import Derived.Test.YtaoekkikpceccaaLx0
import Derived.Test.YtaoekkikpceccaaLx5
import Derived.Test.YtaoekkikpceccaaLx11
namespace Go.Proofs.Ytaoekkikpceccaa.QLoadAdmitKeepsTheLimit
open Go.RowKit Go.Proofs.YtaoekkikpceccaaW.PrintWords Go.Proofs.YtaoekkikpceccaaW.PrintLast Go.Proofs.YtaoekkikpceccaaW.PrintMore
attribute [local go_sem] max2_int min2_int max_two min_two
set_option linter.unusedVariables false
set_option maxHeartbeats 8000000
set_option maxRecDepth 100000
set_option linter.unusedSimpArgs false
mutual
def nat_guess.l0 : Nat → List Int → List Int → Int → Int → Int → Int → Int → Option (Int)
 | 0, _, _, _, _, _, _, _ => none
 | k + 1, x0, x1, x2, x7, x8, x9, x10 => if 0 ≤ (wrap64 (x7 - 2)) then (if (wrap64 (x7 - 2)) < (x1.length : Int) then ((bits_Mul64.f x9 (rd x1 (wrap64 (x7 - 2)))).bind fun bt319 => (if bt319.1 < x10 then (nat_guess.j1 k x0 x1 x2 x7 x8 x9 x10 true) else (if bt319.1 = x10 then (if 0 ≤ (wrap64 ((wrap64 (x2 + x7)) - 2)) then (if (wrap64 ((wrap64 (x2 + x7)) - 2)) < (x0.length : Int) then (nat_guess.j1 k x0 x1 x2 x7 x8 x9 x10 (decide (bt319.2 ≤ (rd x0 (wrap64 ((wrap64 (x2 + x7)) - 2)))))) else (none)) else (none)) else (nat_guess.j1 k x0 x1 x2 x7 x8 x9 x10 false)))) else (none)) else (none)
def nat_guess.j1 : Nat → List Int → List Int → Int → Int → Int → Int → Int → Bool → Option (Int)
 | 0, _, _, _, _, _, _, _, _ => none
 | k + 1, x0, x1, x2, x7, x8, x9, x10, x75 => if x75 = true then (some x9) else (if 0 ≤ x10 then (if 0 ≤ x8 then (if ((x10 + x8) / 18446744073709551616) > 0 then (some (IntKind.u64.wrap (x9 - 1))) else (nat_guess.l0 k x0 x1 x2 x7 x8 (IntKind.u64.wrap (x9 - 1)) ((x10 + x8) % 18446744073709551616))) else (none)) else (none))
end
def nat_guess.f (k : Nat) (l0 : List Int) (l1 : List Int) (a2 : Int) : Option (Int) := if 0 ≤ (wrap64 ((l1.length : Int) - 1)) then (if (wrap64 ((l1.length : Int) - 1)) < (l1.length : Int) then (if 0 ≤ (wrap64 (a2 + (l1.length : Int))) then (if (wrap64 (a2 + (l1.length : Int))) < (l0.length : Int) then (if (rd l0 (wrap64 (a2 + (l1.length : Int)))) ≥ (rd l1 (wrap64 ((l1.length : Int) - 1))) then (some 18446744073709551615) else (if 0 ≤ (wrap64 ((wrap64 (a2 + (l1.length : Int))) - 1)) then (if (wrap64 ((wrap64 (a2 + (l1.length : Int))) - 1)) < (l0.length : Int) then ((bits_Div64.f k (rd l0 (wrap64 (a2 + (l1.length : Int)))) (rd l0 (wrap64 ((wrap64 (a2 + (l1.length : Int))) - 1))) (rd l1 (wrap64 ((l1.length : Int) - 1)))).bind fun bt316 => (nat_guess.l0 k l0 l1 a2 (l1.length : Int) (rd l1 (wrap64 ((l1.length : Int) - 1))) bt316.1 bt316.2)) else (none)) else (none))) else (none)) else (none)) else (none)) else (none)
theorem nat_guess.mono_l : ∀ k, (∀ y0 y1 y2 y3 y4 y5 y6, LeO (nat_guess.l0 k y0 y1 y2 y3 y4 y5 y6) (nat_guess.l0 (k + 1) y0 y1 y2 y3 y4 y5 y6)) ∧ (∀ y0 y1 y2 y3 y4 y5 y6 y7, LeO (nat_guess.j1 k y0 y1 y2 y3 y4 y5 y6 y7) (nat_guess.j1 (k + 1) y0 y1 y2 y3 y4 y5 y6 y7))
 | 0 => ⟨fun _ _ _ _ _ _ _ r h => by simp [nat_guess.l0] at h, fun _ _ _ _ _ _ _ _ r h => by simp [nat_guess.j1] at h⟩
 | k + 1 => by
  obtain ⟨ih0, ih1⟩ := nat_guess.mono_l k
  refine ⟨?_, ?_⟩
  ·intro y0 y1 y2 y3 y4 y5 y6
   unfold nat_guess.l0
   repeat' first
   | (with_reducible exact ih0 _ _ _ _ _ _ _)
   | (with_reducible exact ih1 _ _ _ _ _ _ _ _)
   | (with_reducible exact bits_Div64.mono _ _ _ _)
   | (with_reducible exact LeO.refl _)
   | (with_reducible exact LeO.none _)
   | (with_reducible refine LeO.ite ?_ ?_)
   | (with_reducible refine LeO.bind ?_ (fun _ => ?_))
  ·intro y0 y1 y2 y3 y4 y5 y6 y7
   unfold nat_guess.j1
   repeat' first
   | (with_reducible exact ih0 _ _ _ _ _ _ _)
   | (with_reducible exact ih1 _ _ _ _ _ _ _ _)
   | (with_reducible exact bits_Div64.mono _ _ _ _)
   | (with_reducible exact LeO.refl _)
   | (with_reducible exact LeO.none _)
   | (with_reducible refine LeO.ite ?_ ?_)
   | (with_reducible refine LeO.bind ?_ (fun _ => ?_))
theorem nat_guess.mono : ∀ a0 a1 a2 k, LeO (nat_guess.f k a0 a1 a2) (nat_guess.f (k + 1) a0 a1 a2) := by
 intro a0 a1 a2 k
 obtain ⟨ih0, ih1⟩ := nat_guess.mono_l k
 unfold nat_guess.f
 repeat' first
   | (with_reducible exact ih0 _ _ _ _ _ _ _)
   | (with_reducible exact ih1 _ _ _ _ _ _ _ _)
   | (with_reducible exact bits_Div64.mono _ _ _ _)
   | (with_reducible exact LeO.refl _)
   | (with_reducible exact LeO.none _)
   | (with_reducible refine LeO.ite ?_ ?_)
   | (with_reducible refine LeO.bind ?_ (fun _ => ?_))
theorem nat_guess.calls (k : Nat) (A0 : Option Addr) (c0 : Nat) (l0 : List Int) (A1 : Option Addr) (c1 : Nat) (l1 : List Int) (a2 : Int) (r : Int) (w : World) (hr0 : Kd.C (Kd.int .u64) w A0 l0.length l0) (hc0 : l0.length ≤ c0) (hr1 : Kd.C (Kd.int .u64) w A1 l1.length l1) (hc1 : l1.length ≤ c1) (h : nat_guess.f k l0 l1 a2 = some r) :
  Calls Try.prog 36 #[.slice A0 l0.length c0, .slice A1 l1.length c1, .int .i64 a2] w fun e w' => e = .returned (.int .u64 r) ∧ Drawn0 w w' := by
 have HR0 := aM hr0
 have HC0 := aM hc0
 clear hr0 hc0
 have HR1 := aM hr1
 have HC1 := aM hc1
 clear hr1 hc1
 have H : (if 0 ≤ (wrap64 ((l1.length : Int) - 1)) then (if (wrap64 ((l1.length : Int) - 1)) < (l1.length : Int) then (if 0 ≤ (wrap64 (a2 + (l1.length : Int))) then (if (wrap64 (a2 + (l1.length : Int))) < (l0.length : Int) then (if (rd l0 (wrap64 (a2 + (l1.length : Int)))) ≥ (rd l1 (wrap64 ((l1.length : Int) - 1))) then (some 18446744073709551615) else (if 0 ≤ (wrap64 ((wrap64 (a2 + (l1.length : Int))) - 1)) then (if (wrap64 ((wrap64 (a2 + (l1.length : Int))) - 1)) < (l0.length : Int) then ((bits_Div64.f k (rd l0 (wrap64 (a2 + (l1.length : Int)))) (rd l0 (wrap64 ((wrap64 (a2 + (l1.length : Int))) - 1))) (rd l1 (wrap64 ((l1.length : Int) - 1)))).bind fun bt316 => (nat_guess.l0 k l0 l1 a2 (l1.length : Int) (rd l1 (wrap64 ((l1.length : Int) - 1))) bt316.1 bt316.2)) else (none)) else (none))) else (none)) else (none)) else (none)) else (none)) = some r := h
 clear h
 obtain ⟨ji4, hji4⟩ : ∃ j_ : Int, (wrap64 ((l1.length : Int) - 1)) = j_ := ⟨_, rfl⟩
 replace H : (if 0 ≤ (ji4) then (if (ji4) < (l1.length : Int) then (if 0 ≤ (wrap64 (a2 + (l1.length : Int))) then (if (wrap64 (a2 + (l1.length : Int))) < (l0.length : Int) then (if (rd l0 (wrap64 (a2 + (l1.length : Int)))) ≥ (rd l1 (ji4)) then (some 18446744073709551615) else (if 0 ≤ (wrap64 ((wrap64 (a2 + (l1.length : Int))) - 1)) then (if (wrap64 ((wrap64 (a2 + (l1.length : Int))) - 1)) < (l0.length : Int) then ((bits_Div64.f k (rd l0 (wrap64 (a2 + (l1.length : Int)))) (rd l0 (wrap64 ((wrap64 (a2 + (l1.length : Int))) - 1))) (rd l1 (ji4))).bind fun bt316 => (nat_guess.l0 k l0 l1 a2 (l1.length : Int) (rd l1 (ji4)) bt316.1 bt316.2)) else (none)) else (none))) else (none)) else (none)) else (none)) else (none)) = some r := by first | (rw [hji4] at H; exact H) | (simp only [hji4] at H ⊢; exact H)
 have hji4w : (IntKind.i64.wrap ((l1.length : Int) - 1)) = ji4 := (i64_w _).trans hji4
 by_cases c5 : 0 ≤ (ji4)
 rotate_left
 ·rw [if_neg c5] at H; cases H
 rw [if_pos c5] at H
 have c5b0 : decide (0 ≤ (ji4)) = true := dT c5
 clear c5
 by_cases c6 : (ji4) < (l1.length : Int)
 rotate_left
 ·rw [if_neg c6] at H; cases H
 rw [if_pos c6] at H
 have c6b0 : decide ((ji4) < (l1.length : Int)) = true := dT c6
 clear c6
 obtain ⟨ji7, hji7⟩ : ∃ j_ : Int, (wrap64 (a2 + (l1.length : Int))) = j_ := ⟨_, rfl⟩
 replace H : (if 0 ≤ (ji7) then (if (ji7) < (l0.length : Int) then (if (rd l0 (ji7)) ≥ (rd l1 (ji4)) then (some 18446744073709551615) else (if 0 ≤ (wrap64 ((ji7) - 1)) then (if (wrap64 ((ji7) - 1)) < (l0.length : Int) then ((bits_Div64.f k (rd l0 (ji7)) (rd l0 (wrap64 ((ji7) - 1))) (rd l1 (ji4))).bind fun bt316 => (nat_guess.l0 k l0 l1 a2 (l1.length : Int) (rd l1 (ji4)) bt316.1 bt316.2)) else (none)) else (none))) else (none)) else (none)) = some r := by first | (rw [hji7] at H; exact H) | (simp only [hji7] at H ⊢; exact H)
 have hji7w : (IntKind.i64.wrap (a2 + (l1.length : Int))) = ji7 := (i64_w _).trans hji7
 by_cases c8 : 0 ≤ (ji7)
 rotate_left
 ·rw [if_neg c8] at H; cases H
 rw [if_pos c8] at H
 have c8b0 : decide (0 ≤ (ji7)) = true := dT c8
 clear c8
 by_cases c9 : (ji7) < (l0.length : Int)
 rotate_left
 ·rw [if_neg c9] at H; cases H
 rw [if_pos c9] at H
 have c9b0 : decide ((ji7) < (l0.length : Int)) = true := dT c9
 clear c9
 by_cases c10 : (rd l0 (ji7)) ≥ (rd l1 (ji4))
 ·rw [if_pos c10] at H
  have c10b0 : decide ((rd l1 (ji4)) ≤ (rd l0 (ji7))) = true := dT c10
  clear c10
  obtain rfl := Option.some.inj H
  have p312 : 0 ≤ ((ji4) : Int) := oD (by first | (with_reducible assumption) | assumption)
  have q312 : (ji4) < (l1.length : Int) := oD (by first | (with_reducible assumption) | assumption)
  obtain ⟨ad312, e312, hx312_0⟩ := Kd.at_int HR1.out (ji4) p312 q312
  cases e312
  replace p312 := eq_true p312
  replace q312 := eq_true q312
  have p313 : 0 ≤ ((ji7) : Int) := oD (by first | (with_reducible assumption) | assumption)
  have q313 : (ji7) < (l0.length : Int) := oD (by first | (with_reducible assumption) | assumption)
  obtain ⟨ad313, e313, hx313_0⟩ := Kd.at_int HR0.out (ji7) p313 q313
  cases e313
  replace p313 := eq_true p313
  replace q313 := eq_true q313
  go_enter Try.func36, Try.ntmps36
  go_wp2
  repeat (go_quiet (fail); try go_wp2)
  go_ret
  exact ⟨by first | rfl | (simp; done) | (simp only [← hji4, ← hji7] <;> (first | rfl | simp)) | (simp [*]; done), by repeat (first | exact Drawn0.refl _ | apply Drawn0.step)⟩
 ·rw [if_neg c10] at H
  have c10b0 : decide ((rd l1 (ji4)) ≤ (rd l0 (ji7))) = false := decide_eq_false c10
  clear c10
  obtain ⟨ji11, hji11⟩ : ∃ j_ : Int, (wrap64 ((ji7) - 1)) = j_ := ⟨_, rfl⟩
  replace H : (if 0 ≤ (ji11) then (if (ji11) < (l0.length : Int) then ((bits_Div64.f k (rd l0 (ji7)) (rd l0 (ji11)) (rd l1 (ji4))).bind fun bt316 => (nat_guess.l0 k l0 l1 a2 (l1.length : Int) (rd l1 (ji4)) bt316.1 bt316.2)) else (none)) else (none)) = some r := by first | (rw [hji11] at H; exact H) | (simp only [hji11] at H ⊢; exact H)
  have hji11w : (IntKind.i64.wrap ((ji7) - 1)) = ji11 := (i64_w _).trans hji11
  by_cases c12 : 0 ≤ (ji11)
  rotate_left
  ·rw [if_neg c12] at H; cases H
  rw [if_pos c12] at H
  have c12b0 : decide (0 ≤ (ji11)) = true := dT c12
  clear c12
  by_cases c13 : (ji11) < (l0.length : Int)
  rotate_left
  ·rw [if_neg c13] at H; cases H
  rw [if_pos c13] at H
  have c13b0 : decide ((ji11) < (l0.length : Int)) = true := dT c13
  clear c13
  replace H := oB H
  obtain ⟨⟨t316, t317⟩, A140, H⟩ := H
  replace H : (nat_guess.l0 k l0 l1 a2 (l1.length : Int) (rd l1 (ji4)) t316 t317) = some r := H
  have A14 := aM A140; clear A140; have H' := aM H; clear H
  have p312 : 0 ≤ ((ji4) : Int) := oD (by first | (with_reducible assumption) | assumption)
  have q312 : (ji4) < (l1.length : Int) := oD (by first | (with_reducible assumption) | assumption)
  obtain ⟨ad312, e312, hx312_0⟩ := Kd.at_int HR1.out (ji4) p312 q312
  cases e312
  replace p312 := eq_true p312
  replace q312 := eq_true q312
  have p313 : 0 ≤ ((ji7) : Int) := oD (by first | (with_reducible assumption) | assumption)
  have q313 : (ji7) < (l0.length : Int) := oD (by first | (with_reducible assumption) | assumption)
  obtain ⟨ad313, e313, hx313_0⟩ := Kd.at_int HR0.out (ji7) p313 q313
  cases e313
  replace p313 := eq_true p313
  replace q313 := eq_true q313
  have p314 : 0 ≤ ((ji7) : Int) := oD (by first | (with_reducible assumption) | assumption)
  have q314 : (ji7) < (l0.length : Int) := oD (by first | (with_reducible assumption) | assumption)
  obtain ⟨ad314, e314, hx314_0⟩ := Kd.at_int HR0.out (ji7) p314 q314
  obtain rfl : ad313 = ad314 := (by injection e314)
  replace p314 := eq_true p314
  replace q314 := eq_true q314
  have p315 : 0 ≤ ((ji11) : Int) := oD (by first | (with_reducible assumption) | assumption)
  have q315 : (ji11) < (l0.length : Int) := oD (by first | (with_reducible assumption) | assumption)
  obtain ⟨ad315, e315, hx315_0⟩ := Kd.at_int HR0.out (ji11) p315 q315
  obtain rfl : ad313 = ad315 := (by injection e315)
  replace p315 := eq_true p315
  replace q315 := eq_true q315
  go_enter Try.func36, Try.ntmps36
  go_wp2_with (first | (go_at_call 42; (with_reducible refine (bits_Div64.calls k (rd l0 (ji7)) (rd l0 (ji11)) (rd l1 (ji4)) t316 t317 _ A14.out).mono ?_); rintro e w' ⟨rfl, ⟨nd, rfl⟩⟩; (try first | exact ⟨rfl, _, World.drewN_drewN _ _ _⟩ | exact ⟨rfl, _, Eq.trans (World.drewN_drewN _ _ _) (congrArg (World.drewN _) (Nat.add_assoc _ _ _))⟩)))
  repeat (go_quiet (first | (go_at_call 42; (with_reducible refine (bits_Div64.calls k (rd l0 (ji7)) (rd l0 (ji11)) (rd l1 (ji4)) t316 t317 _ A14.out).mono ?_); rintro e w' ⟨rfl, ⟨nd, rfl⟩⟩; (try first | exact ⟨rfl, _, World.drewN_drewN _ _ _⟩ | exact ⟨rfl, _, Eq.trans (World.drewN_drewN _ _ _) (congrArg (World.drewN _) (Nat.add_assoc _ _ _))⟩))); try go_wp2_with (first | (go_at_call 42; (with_reducible refine (bits_Div64.calls k (rd l0 (ji7)) (rd l0 (ji11)) (rd l1 (ji4)) t316 t317 _ A14.out).mono ?_); rintro e w' ⟨rfl, ⟨nd, rfl⟩⟩; (try first | exact ⟨rfl, _, World.drewN_drewN _ _ _⟩ | exact ⟨rfl, _, Eq.trans (World.drewN_drewN _ _ _) (congrArg (World.drewN _) (Nat.add_assoc _ _ _))⟩))))
  go_loopg [9, 10] k (fun kq v9 v10 w' => ∃ (x9_1 : Int) (x10_1 : Int), v9 = .int .u64 x9_1 ∧ v10 = .int .u64 x10_1 ∧ Aside0 (nat_guess.l0 kq l0 l1 a2 (l1.length : Int) (rd l1 (ji4)) x9_1 x10_1 = some r) ∧ Aside0 (kq ≤ k) ∧ Drawn0 w w')
  case atStart => exact ⟨(t316), (t317), (by first | rfl | (simp; done) | (simp [*]; done)), (by first | rfl | (simp; done) | (simp [*]; done)), H', ⟨Nat.le_refl _⟩, by repeat (first | exact Drawn0.refl _ | apply Drawn0.step)⟩
  case round =>
   clear H'
   try clear c1
   try clear p2
   try clear c3
   try clear p3
   try clear q3
   try clear hx3
   try clear c5
   try clear c5b0
   try clear c6
   try clear c6b0
   try clear p6
   try clear c8
   try clear c8b0
   try clear c9
   try clear c9b0
   try clear c10
   try clear c10b0
   try clear c12
   try clear c12b0
   try clear c13
   try clear c13b0
   try clear hx312_0
   try clear hx313_0
   try clear hx314_0
   try clear hx315_0
   try clear p312
   try clear p313
   try clear p314
   try clear p315
   try clear q312
   try clear q313
   try clear q314
   try clear q315
   obtain ⟨x9_1, x10_1, rfl, rfl, HA, HK1, ⟨m1, rfl⟩⟩ := hrel
   cases gk with
   | zero => exact absurd HA.out (by simp [nat_guess.l0])
   | succ k1 =>
    have H := HA.out
    clear HA
    simp only [nat_guess.l0] at H
    obtain ⟨ji15, hji15⟩ : ∃ j_ : Int, (wrap64 ((l1.length : Int) - 2)) = j_ := ⟨_, rfl⟩
    replace H : (if 0 ≤ (ji15) then (if (ji15) < (l1.length : Int) then ((bits_Mul64.f x9_1 (rd l1 (ji15))).bind fun bt319 => (if bt319.1 < x10_1 then (nat_guess.j1 k1 l0 l1 a2 (l1.length : Int) (rd l1 (ji4)) x9_1 x10_1 true) else (if bt319.1 = x10_1 then (if 0 ≤ (wrap64 ((wrap64 (a2 + (l1.length : Int))) - 2)) then (if (wrap64 ((wrap64 (a2 + (l1.length : Int))) - 2)) < (l0.length : Int) then (nat_guess.j1 k1 l0 l1 a2 (l1.length : Int) (rd l1 (ji4)) x9_1 x10_1 (decide (bt319.2 ≤ (rd l0 (wrap64 ((wrap64 (a2 + (l1.length : Int))) - 2)))))) else (none)) else (none)) else (nat_guess.j1 k1 l0 l1 a2 (l1.length : Int) (rd l1 (ji4)) x9_1 x10_1 false)))) else (none)) else (none)) = some r := by first | (rw [hji15] at H; exact H) | (simp only [hji15] at H ⊢; exact H)
    have hji15w : (IntKind.i64.wrap ((l1.length : Int) - 2)) = ji15 := (i64_w _).trans hji15
    by_cases c16 : 0 ≤ (ji15)
    rotate_left
    ·rw [if_neg c16] at H; cases H
    rw [if_pos c16] at H
    have c16b0 : decide (0 ≤ (ji15)) = true := dT c16
    clear c16
    by_cases c17 : (ji15) < (l1.length : Int)
    rotate_left
    ·rw [if_neg c17] at H; cases H
    rw [if_pos c17] at H
    have c17b0 : decide ((ji15) < (l1.length : Int)) = true := dT c17
    clear c17
    replace H := oB H
    obtain ⟨⟨t319, t320⟩, A180, H⟩ := H
    replace H : (if t319 < x10_1 then (nat_guess.j1 k1 l0 l1 a2 (l1.length : Int) (rd l1 (ji4)) x9_1 x10_1 true) else (if t319 = x10_1 then (if 0 ≤ (wrap64 ((wrap64 (a2 + (l1.length : Int))) - 2)) then (if (wrap64 ((wrap64 (a2 + (l1.length : Int))) - 2)) < (l0.length : Int) then (nat_guess.j1 k1 l0 l1 a2 (l1.length : Int) (rd l1 (ji4)) x9_1 x10_1 (decide (t320 ≤ (rd l0 (wrap64 ((wrap64 (a2 + (l1.length : Int))) - 2)))))) else (none)) else (none)) else (nat_guess.j1 k1 l0 l1 a2 (l1.length : Int) (rd l1 (ji4)) x9_1 x10_1 false))) = some r := H
    have A18 := aM A180; clear A180; have HC19 := aM H; clear H
    have p318 : 0 ≤ ((ji15) : Int) := oD (by first | (with_reducible assumption) | assumption)
    have q318 : (ji15) < (l1.length : Int) := oD (by first | (with_reducible assumption) | assumption)
    obtain ⟨ad318, e318, hx318_0⟩ := Kd.at_int HR1.out (ji15) p318 q318
    obtain rfl : ad312 = ad318 := (by injection e318)
    replace p318 := eq_true p318
    replace q318 := eq_true q318
    go_upto_region 7 with (first | (go_at_call 40; (with_reducible refine (bits_Mul64.calls x9_1 (rd l1 (ji15)) t319 t320 _ A18.out).mono ?_); rintro e w' ⟨rfl, ⟨nd, rfl⟩⟩; (try first | exact ⟨rfl, _, World.drewN_drewN _ _ _⟩ | exact ⟨rfl, _, Eq.trans (World.drewN_drewN _ _ _) (congrArg (World.drewN _) (Nat.add_assoc _ _ _))⟩)))
    repeat (go_quiet (first | (go_at_call 40; (with_reducible refine (bits_Mul64.calls x9_1 (rd l1 (ji15)) t319 t320 _ A18.out).mono ?_); rintro e w' ⟨rfl, ⟨nd, rfl⟩⟩; (try first | exact ⟨rfl, _, World.drewN_drewN _ _ _⟩ | exact ⟨rfl, _, Eq.trans (World.drewN_drewN _ _ _) (congrArg (World.drewN _) (Nat.add_assoc _ _ _))⟩))); go_upto_region 7 with (first | (go_at_call 40; (with_reducible refine (bits_Mul64.calls x9_1 (rd l1 (ji15)) t319 t320 _ A18.out).mono ?_); rintro e w' ⟨rfl, ⟨nd, rfl⟩⟩; (try first | exact ⟨rfl, _, World.drewN_drewN _ _ _⟩ | exact ⟨rfl, _, Eq.trans (World.drewN_drewN _ _ _) (congrArg (World.drewN _) (Nat.add_assoc _ _ _))⟩))))
    (try simp only [Act.put, sI, sZ, sS])
    go_cut [75] (fun v75 wc => ∃ (kq : Nat) (x75_18 : Bool), v75 = .bool x75_18 ∧ Aside0 (nat_guess.j1 kq l0 l1 a2 (l1.length : Int) (rd l1 (ji4)) x9_1 x10_1 x75_18 = some r) ∧ Aside0 (kq ≤ k1) ∧ Drawn0 w wc)
    case first =>
     have H := HC19.out
     clear HC19
     by_cases c20 : t319 < x10_1
     ·rw [if_pos c20] at H
      have c20b0 : decide (t319 < x10_1) = true := dT c20
      clear c20
      (first | rw [c20b0] | (simp only [i64_w, i32_w]; rw [c20b0]) | skip)
      have H' := aM H; clear H
      go_wp2
      repeat (go_quiet (fail); try go_wp2)
      go_meet
      case rel => exact ⟨_, (true), (by first | rfl | (simp; done) | (simp [*]; done)), (by first | exact H' | (have h_ := H'; simp only [← hji4, ← hji7, ← hji11, ← hji15] at h_; exact h_)), ⟨by have := HK1.out; first | omega | exact Nat.le_refl _⟩, by repeat (first | exact Drawn0.refl _ | apply Drawn0.step)⟩
     ·rw [if_neg c20] at H
      have c20b0 : decide (t319 < x10_1) = false := decide_eq_false c20
      clear c20
      (first | rw [c20b0] | (simp only [i64_w, i32_w]; rw [c20b0]) | skip)
      by_cases c21 : t319 = x10_1
      ·rw [if_pos c21] at H
       have c21b0 : (t319 == x10_1) = true := beq_iff_eq.mpr c21
       have c21b1 : (t319 != x10_1) = false := bne_eq_false_iff_eq.mpr c21
       clear c21
       obtain ⟨ji22, hji22⟩ : ∃ j_ : Int, (wrap64 ((wrap64 (a2 + (l1.length : Int))) - 2)) = j_ := ⟨_, rfl⟩
       replace H : (if 0 ≤ (ji22) then (if (ji22) < (l0.length : Int) then (nat_guess.j1 k1 l0 l1 a2 (l1.length : Int) (rd l1 (ji4)) x9_1 x10_1 (decide (t320 ≤ (rd l0 (ji22))))) else (none)) else (none)) = some r := by first | (rw [hji22] at H; exact H) | (simp only [hji22] at H ⊢; exact H)
       (try have hji22r : (wrap64 ((ji7) - 2)) = ji22 := by simp only [← hji7]; exact hji22)
       (try have hji22rw : (IntKind.i64.wrap ((ji7) - 2)) = ji22 := (i64_w _).trans hji22r)
       have hji22w : (IntKind.i64.wrap ((wrap64 (a2 + (l1.length : Int))) - 2)) = ji22 := (i64_w _).trans hji22
       by_cases c23 : 0 ≤ (ji22)
       rotate_left
       ·rw [if_neg c23] at H; cases H
       rw [if_pos c23] at H
       have c23b0 : decide (0 ≤ (ji22)) = true := dT c23
       clear c23
       by_cases c24 : (ji22) < (l0.length : Int)
       rotate_left
       ·rw [if_neg c24] at H; cases H
       rw [if_pos c24] at H
       have c24b0 : decide ((ji22) < (l0.length : Int)) = true := dT c24
       clear c24; have H' := aM H; clear H
       have p321 : 0 ≤ ((ji22) : Int) := oD (by first | (with_reducible assumption) | assumption)
       have q321 : (ji22) < (l0.length : Int) := oD (by first | (with_reducible assumption) | assumption)
       obtain ⟨ad321, e321, hx321_0⟩ := Kd.at_int HR0.out (ji22) p321 q321
       obtain rfl : ad313 = ad321 := (by injection e321)
       replace p321 := eq_true p321
       replace q321 := eq_true q321
       go_wp2
       repeat (go_quiet (fail); try go_wp2)
       go_meet
       case rel => exact ⟨_, (decide (t320 ≤ (rd l0 (ji22)))), (by first | rfl | (simp; done) | (simp only [← hji22] <;> (first | rfl | simp)) | (simp [*]; done)), (by first | exact H' | (have h_ := H'; simp only [← hji4, ← hji7, ← hji11, ← hji15, ← hji22] at h_; exact h_)), ⟨by have := HK1.out; first | omega | exact Nat.le_refl _⟩, by repeat (first | exact Drawn0.refl _ | apply Drawn0.step)⟩
      ·rw [if_neg c21] at H
       have c21b0 : (t319 == x10_1) = false := beq_eq_false_iff_ne.mpr c21
       have c21b1 : (t319 != x10_1) = true := bne_iff_ne.mpr c21
       have H' := aM H; clear H
       go_wp2
       repeat (go_quiet (fail); try go_wp2)
       go_meet
       case rel => exact ⟨_, (false), (by first | rfl | (simp; done) | (simp [*]; done)), (by first | exact H' | (have h_ := H'; simp only [← hji4, ← hji7, ← hji11, ← hji15] at h_; exact h_)), ⟨by have := HK1.out; first | omega | exact Nat.le_refl _⟩, by repeat (first | exact Drawn0.refl _ | apply Drawn0.step)⟩
    case rest =>
     clear HC19
     try clear c1
     try clear c2
     try clear p2
     try clear c3
     try clear p3
     try clear q3
     try clear hx3
     try clear c5
     try clear c5b0
     try clear c6
     try clear c6b0
     try clear p6
     try clear c8
     try clear c8b0
     try clear c9
     try clear c9b0
     try clear c10
     try clear c10b0
     try clear c12
     try clear c12b0
     try clear c13
     try clear c13b0
     try clear c16
     try clear c16b0
     try clear c17
     try clear c17b0
     try clear c20
     try clear c20b0
     try clear c21
     try clear c21b0
     try clear c21b1
     try clear c23
     try clear c23b0
     try clear c24
     try clear c24b0
     try clear hx312_0
     try clear hx313_0
     try clear hx314_0
     try clear hx315_0
     try clear hx318_0
     try clear hx321_0
     try clear p2
     try clear p3
     try clear p312
     try clear p313
     try clear p314
     try clear p315
     try clear p318
     try clear p321
     try clear p6
     try clear q3
     try clear q312
     try clear q313
     try clear q314
     try clear q315
     try clear q318
     try clear q321
     obtain ⟨kq, x75_18, rfl, HA, HJ18, ⟨mc18, rfl⟩⟩ := hcut
     cases kq with
     | zero => exact absurd HA.out (by simp [nat_guess.j1])
     | succ kj18 =>
      have H := HA.out
      clear HA
      simp only [nat_guess.j1] at H
      by_cases c25 : x75_18 = true
      ·subst c25
       have H1 : (some x9_1) = some r := by rw [if_pos rfl] at H; exact H
       clear H
       have H := H1
       clear H1
       obtain rfl := Option.some.inj H
       go_wp2
       repeat (go_quiet (fail); try go_wp2)
       go_ret
       exact ⟨by first | rfl | (simp; done) | (simp only [← hji4, ← hji7, ← hji11, ← hji15] <;> (first | rfl | simp)) | (simp [*]; done), by repeat (first | exact Drawn0.refl _ | apply Drawn0.step)⟩
      ·replace c25 := Bool.eq_false_iff.mpr c25
       subst c25
       have H1 : (if 0 ≤ x10_1 then (if 0 ≤ (rd l1 (ji4)) then (if ((x10_1 + (rd l1 (ji4))) / 18446744073709551616) > 0 then (some (IntKind.u64.wrap (x9_1 - 1))) else (nat_guess.l0 kj18 l0 l1 a2 (l1.length : Int) (rd l1 (ji4)) (IntKind.u64.wrap (x9_1 - 1)) ((x10_1 + (rd l1 (ji4))) % 18446744073709551616))) else (none)) else (none)) = some r := by rw [if_neg (show ¬ (false = true) by decide)] at H; exact H
       clear H
       have H := H1
       clear H1
       by_cases c26 : 0 ≤ x10_1
       rotate_left
       ·rw [if_neg c26] at H; cases H
       rw [if_pos c26] at H
       have c26b0 := eq_true c26
       have c26b1 : decide (0 ≤ x10_1) = true := dT c26
       clear c26
       by_cases c27 : 0 ≤ (rd l1 (ji4))
       rotate_left
       ·rw [if_neg c27] at H; cases H
       rw [if_pos c27] at H
       have c27b0 := eq_true c27
       have c27b1 : decide (0 ≤ (rd l1 (ji4))) = true := dT c27
       clear c27
       have hx28 := fun w_ => call_add64_28 x10_1 (rd l1 (ji4)) 0 (oD (by first | decide | (with_reducible assumption) | assumption | (simp only [decide_eq_true_eq]; omega))) (oD (by first | decide | (with_reducible assumption) | assumption | (simp only [decide_eq_true_eq]; omega))) (oD (by first | decide | (with_reducible assumption) | assumption | (simp only [decide_eq_true_eq]; omega))) (oD (by first | decide | (with_reducible assumption) | assumption | (simp only [decide_eq_true_eq]; omega))) w_
       by_cases c29 : ((x10_1 + (rd l1 (ji4))) / 18446744073709551616) > 0
       ·rw [if_pos c29] at H
        have c29b0 : decide (0 < ((x10_1 + (rd l1 (ji4))) / 18446744073709551616)) = true := dT c29
        clear c29
        obtain rfl := Option.some.inj H
        go_wp2
        repeat (go_quiet (fail); try go_wp2)
        go_ret
        exact ⟨by first | rfl | (simp; done) | (simp only [← hji4, ← hji7, ← hji11, ← hji15] <;> (first | rfl | simp)) | (simp [*]; done), by repeat (first | exact Drawn0.refl _ | apply Drawn0.step)⟩
       ·rw [if_neg c29] at H
        have c29b0 : decide (0 < ((x10_1 + (rd l1 (ji4))) / 18446744073709551616)) = false := decide_eq_false c29
        clear c29; have H' := aM H; clear H
        go_wp2
        repeat (go_quiet (fail); try go_wp2)
        go_roundg kj18
        case measure => have := HK1.out; have := HJ18.out; omega
        case rel => exact ⟨(IntKind.u64.wrap (x9_1 - 1)), ((x10_1 + (rd l1 (ji4))) % 18446744073709551616), (by first | rfl | (simp; done) | (simp [*]; done)), (by first | rfl | (simp; done) | (simp only [← hji4] <;> (first | rfl | simp)) | (simp [*]; done)), (by first | exact H' | (have h_ := H'; simp only [← hji4, ← hji7, ← hji11, ← hji15] at h_; exact h_)), ⟨by have := HK1.out; have := HJ18.out; omega⟩, by repeat (first | exact Drawn0.refl _ | apply Drawn0.step)⟩
def nat_take.l0 : Nat → List Int → List Int → Int → Int → Int → Int → Int → Int → Option (Bool × List Int)
 | 0, _, _, _, _, _, _, _, _ => none
 | k + 1, x0, x1, x2, x3, x9, x10, x16, x17 => if x17 < x16 then (if 0 ≤ x17 then (if x17 < (x1.length : Int) then ((bits_Mul64.f x3 (rd x1 x17)).bind fun bt323 => (if 0 ≤ bt323.2 then (if 0 ≤ x9 then (if 0 ≤ (wrap64 (x17 + x2)) then (if (wrap64 (x17 + x2)) < (x0.length : Int) then (if 0 ≤ (rd x0 (wrap64 (x17 + x2))) then (if 0 ≤ x10 then (if x10 ≤ 1 then (nat_take.l0 k (x0.set ((wrap64 (x17 + x2)) : Int).toNat (((rd x0 (wrap64 (x17 + x2))) + 18446744073709551616 - ((bt323.2 + x9) % 18446744073709551616) - x10) % 18446744073709551616)) x1 x2 x3 (IntKind.u64.wrap (bt323.1 + ((bt323.2 + x9) / 18446744073709551616))) (brw (rd x0 (wrap64 (x17 + x2))) ((bt323.2 + x9) % 18446744073709551616) x10) x16 (wrap64 (x17 + 1))) else (none)) else (none)) else (none)) else (none)) else (none)) else (none)) else (none))) else (none)) else (none)) else (if 0 ≤ (wrap64 (x2 + (x1.length : Int))) then (if (wrap64 (x2 + (x1.length : Int))) < (x0.length : Int) then (if 0 ≤ (rd x0 (wrap64 (x2 + (x1.length : Int)))) then (if 0 ≤ x9 then (if 0 ≤ x10 then (if x10 ≤ 1 then (if x9 < 18446744073709551616 then (some (decide ((brw (rd x0 (wrap64 (x2 + (x1.length : Int)))) x9 x10) > 0), (x0.set ((wrap64 (x2 + (x1.length : Int))) : Int).toNat (((rd x0 (wrap64 (x2 + (x1.length : Int)))) + 18446744073709551616 - x9 - x10) % 18446744073709551616)))) else (none)) else (none)) else (none)) else (none)) else (none)) else (none)) else (none))
def nat_take.f (k : Nat) (l0 : List Int) (l1 : List Int) (a2 : Int) (a3 : Int) : Option (Bool × List Int) := nat_take.l0 k l0 l1 a2 a3 0 0 (l1.length : Int) 0
theorem nat_take.mono_l : ∀ k, (∀ y0 y1 y2 y3 y4 y5 y6 y7, LeO (nat_take.l0 k y0 y1 y2 y3 y4 y5 y6 y7) (nat_take.l0 (k + 1) y0 y1 y2 y3 y4 y5 y6 y7))
 | 0 => fun _ _ _ _ _ _ _ _ r h => by simp [nat_take.l0] at h
 | k + 1 => by
  have ih0 := nat_take.mono_l k
  ·intro y0 y1 y2 y3 y4 y5 y6 y7
   unfold nat_take.l0
   repeat' first
   | (with_reducible exact ih0 _ _ _ _ _ _ _ _)
   | (with_reducible exact LeO.refl _)
   | (with_reducible exact LeO.none _)
   | (with_reducible refine LeO.ite ?_ ?_)
   | (with_reducible refine LeO.bind ?_ (fun _ => ?_))
theorem nat_take.mono : ∀ a0 a1 a2 a3 k, LeO (nat_take.f k a0 a1 a2 a3) (nat_take.f (k + 1) a0 a1 a2 a3) := by
 intro a0 a1 a2 a3 k
 have ih0 := nat_take.mono_l k
 unfold nat_take.f
 repeat' first
   | (with_reducible exact ih0 _ _ _ _ _ _ _ _)
   | (with_reducible exact LeO.refl _)
   | (with_reducible exact LeO.none _)
   | (with_reducible refine LeO.ite ?_ ?_)
   | (with_reducible refine LeO.bind ?_ (fun _ => ?_))
theorem nat_take.calls (k : Nat) (P0_ : Nat → Prop) (u9000_ : Value) (l0 : List Int) (A1 : Option Addr) (c1 : Nat) (l1 : List Int) (a2 : Int) (a3 : Int) (r1 : Bool) (r2 : List Int) (w0 w : World) (hB : Below w0.heap.size w0 w) (ho0 : Kd.R (Kd.int .u64) 65 w w0.heap.size P0_ u9000_ l0) (hr1 : ∀ W_, Kept w W_ (fun k_ => P0_ k_) → Kd.C (Kd.int .u64) W_ A1 l1.length l1) (hc1 : l1.length ≤ c1) (h : nat_take.f k l0 l1 a2 a3 = some (r1, r2)) :
  Calls Try.prog 37 #[u9000_, .slice A1 l1.length c1, .int .i64 a2, .int .u64 a3] w fun e w' => e = .returned (.bool r1) ∧ Kd.R (Kd.int .u64) 65 w' w0.heap.size (fun k_ => (P0_ k_ ∨ w.heap.size ≤ k_)) u9000_ r2 ∧ Below w0.heap.size w0 w' ∧ Kept w w' (fun k_ => P0_ k_) := by
 have HO0 := aM (show Kd.R (Kd.int .u64) 65 w w0.heap.size (fun k_ => (P0_ k_ ∨ w.heap.size ≤ k_)) u9000_ l0 from Kd.R_mono ho0 (fun k_ hk => (.inl hk)))
 have HR1 := aM hr1
 have HC1 := aM hc1
 clear hr1 hc1
 have HK := aM (Kept.refl w (fun k_ => P0_ k_))
 have HW0 := aM hB.size
 have HB := aM hB
 clear hB
 have H : (nat_take.l0 k l0 l1 a2 a3 0 0 (l1.length : Int) 0) = some (r1, r2) := h
 clear h; have H' := aM H; clear H
 go_enter Try.func37, Try.ntmps37
 go_wp2
 go_loopg [9, 10, 17] k (fun kq v9 v10 v17 w' => ∃ (x0_1 : List Int) (x9_1 : Int) (x10_1 : Int) (x17_1 : Int), v9 = .int .u64 x9_1 ∧ v10 = .int .u64 x10_1 ∧ v17 = .int .i64 x17_1 ∧ Aside0 (nat_take.l0 kq x0_1 l1 a2 a3 x9_1 x10_1 (l1.length : Int) x17_1 = some (r1, r2)) ∧ Aside0 (kq ≤ k) ∧ Aside0 (Kd.R (Kd.int .u64) 65 w' w0.heap.size (fun k_ => (P0_ k_ ∨ w.heap.size ≤ k_)) u9000_ x0_1) ∧ Aside0 (Kept w w' (fun k_ => P0_ k_)) ∧ Aside0 (Below w0.heap.size w0 w'))
 case atStart => exact ⟨(l0), (0), (0), (0), (by first | rfl | (simp; done) | (simp [*]; done)), (by first | rfl | (simp; done) | (simp [*]; done)), (by first | rfl | (simp; done) | (simp [*]; done)), H', ⟨Nat.le_refl _⟩, ⟨by apply_rules [HO0.out, rN, rD]⟩, ⟨by repeat (first | (with_reducible first | exact HK.out | apply Kept.alloc | apply Kept.drewN | apply Kept.drew) | exact HK.out)⟩, ⟨by apply_rules [HB.out, bA, pN, bD]⟩⟩
 case round =>
  clear H'
  try clear c1
  try clear p2
  try clear c3
  obtain ⟨x0_1, x9_1, x10_1, x17_1, rfl, rfl, rfl, HA, HK1, HO_0, HK, HB⟩ := hrel
  cases gk with
  | zero => exact absurd HA.out (by simp [nat_take.l0])
  | succ k1 =>
   have H := HA.out
   clear HA
   simp only [nat_take.l0] at H
   by_cases c5 : x17_1 < (l1.length : Int)
   ·rw [if_pos c5] at H
    have c5b0 : decide (x17_1 < (l1.length : Int)) = true := dT c5
    clear c5
    by_cases c6 : 0 ≤ x17_1
    rotate_left
    ·rw [if_neg c6] at H; cases H
    rw [if_pos c6] at H
    have c6b0 : decide (0 ≤ x17_1) = true := dT c6
    clear c6
    by_cases c7 : x17_1 < (l1.length : Int)
    rotate_left
    ·rw [if_neg c7] at H; cases H
    rw [if_pos c7] at H
    have c7b0 : decide (x17_1 < (l1.length : Int)) = true := dT c7
    clear c7
    replace H := oB H
    obtain ⟨⟨t323, t324⟩, A80, H⟩ := H
    replace H : (if 0 ≤ t324 then (if 0 ≤ x9_1 then (if 0 ≤ (wrap64 (x17_1 + a2)) then (if (wrap64 (x17_1 + a2)) < (x0_1.length : Int) then (if 0 ≤ (rd x0_1 (wrap64 (x17_1 + a2))) then (if 0 ≤ x10_1 then (if x10_1 ≤ 1 then (nat_take.l0 k1 (x0_1.set ((wrap64 (x17_1 + a2)) : Int).toNat (((rd x0_1 (wrap64 (x17_1 + a2))) + 18446744073709551616 - ((t324 + x9_1) % 18446744073709551616) - x10_1) % 18446744073709551616)) l1 a2 a3 (IntKind.u64.wrap (t323 + ((t324 + x9_1) / 18446744073709551616))) (brw (rd x0_1 (wrap64 (x17_1 + a2))) ((t324 + x9_1) % 18446744073709551616) x10_1) (l1.length : Int) (wrap64 (x17_1 + 1))) else (none)) else (none)) else (none)) else (none)) else (none)) else (none)) else (none)) = some (r1, r2) := H
    have A8 := aM A80; clear A80
    by_cases c9 : 0 ≤ t324
    rotate_left
    ·rw [if_neg c9] at H; cases H
    rw [if_pos c9] at H
    have c9b0 := eq_true c9
    have c9b1 : decide (0 ≤ t324) = true := dT c9
    clear c9
    by_cases c10 : 0 ≤ x9_1
    rotate_left
    ·rw [if_neg c10] at H; cases H
    rw [if_pos c10] at H
    have c10b0 := eq_true c10
    have c10b1 : decide (0 ≤ x9_1) = true := dT c10
    clear c10
    have hx11 := fun w_ => call_add64_28 t324 x9_1 0 (oD (by first | decide | (with_reducible assumption) | assumption | (simp only [decide_eq_true_eq]; omega))) (oD (by first | decide | (with_reducible assumption) | assumption | (simp only [decide_eq_true_eq]; omega))) (oD (by first | decide | (with_reducible assumption) | assumption | (simp only [decide_eq_true_eq]; omega))) (oD (by first | decide | (with_reducible assumption) | assumption | (simp only [decide_eq_true_eq]; omega))) w_
    obtain ⟨ji12, hji12⟩ : ∃ j_ : Int, (wrap64 (x17_1 + a2)) = j_ := ⟨_, rfl⟩
    replace H : (if 0 ≤ (ji12) then (if (ji12) < (x0_1.length : Int) then (if 0 ≤ (rd x0_1 (ji12)) then (if 0 ≤ x10_1 then (if x10_1 ≤ 1 then (nat_take.l0 k1 (x0_1.set ((ji12) : Int).toNat (((rd x0_1 (ji12)) + 18446744073709551616 - ((t324 + x9_1) % 18446744073709551616) - x10_1) % 18446744073709551616)) l1 a2 a3 (IntKind.u64.wrap (t323 + ((t324 + x9_1) / 18446744073709551616))) (brw (rd x0_1 (ji12)) ((t324 + x9_1) % 18446744073709551616) x10_1) (l1.length : Int) (wrap64 (x17_1 + 1))) else (none)) else (none)) else (none)) else (none)) else (none)) = some (r1, r2) := by first | (rw [hji12] at H; exact H) | (simp only [hji12] at H ⊢; exact H)
    (try rw [hji12] at A8)
    have hji12w : (IntKind.i64.wrap (x17_1 + a2)) = ji12 := (i64_w _).trans hji12
    by_cases c13 : 0 ≤ (ji12)
    rotate_left
    ·rw [if_neg c13] at H; cases H
    rw [if_pos c13] at H
    have c13b0 : decide (0 ≤ (ji12)) = true := dT c13
    clear c13
    by_cases c14 : (ji12) < (x0_1.length : Int)
    rotate_left
    ·rw [if_neg c14] at H; cases H
    rw [if_pos c14] at H
    have c14b0 : decide ((ji12) < (x0_1.length : Int)) = true := dT c14
    clear c14
    by_cases c15 : 0 ≤ (rd x0_1 (ji12))
    rotate_left
    ·rw [if_neg c15] at H; cases H
    rw [if_pos c15] at H
    have c15b0 := eq_true c15
    have c15b1 : decide (0 ≤ (rd x0_1 (ji12))) = true := dT c15
    clear c15
    by_cases c16 : 0 ≤ x10_1
    rotate_left
    ·rw [if_neg c16] at H; cases H
    rw [if_pos c16] at H
    have c16b0 := eq_true c16
    have c16b1 : decide (0 ≤ x10_1) = true := dT c16
    clear c16
    by_cases c17 : x10_1 ≤ 1
    rotate_left
    ·rw [if_neg c17] at H; cases H
    rw [if_pos c17] at H
    have c17b0 := eq_true c17
    have c17b1 : decide (x10_1 ≤ 1) = true := dT c17
    clear c17
    have hx18 := fun w_ => call_sub64_44 (rd x0_1 (ji12)) ((t324 + x9_1) % 18446744073709551616) x10_1 (oD (by first | decide | (with_reducible assumption) | assumption | (simp only [decide_eq_true_eq]; omega))) (oD (by first | decide | (with_reducible assumption) | assumption | (simp only [decide_eq_true_eq]; omega))) (oD (by first | decide | (with_reducible assumption) | assumption | (simp only [decide_eq_true_eq]; omega))) (oD (by first | decide | (with_reducible assumption) | assumption | (simp only [decide_eq_true_eq]; omega))) (oD (by first | decide | (with_reducible assumption) | assumption | (simp only [decide_eq_true_eq]; omega))) w_
    obtain ⟨y326, hy326⟩ : ∃ y_ : List Int, y_ = (x0_1.set ((ji12) : Int).toNat (((rd x0_1 (ji12)) + 18446744073709551616 - ((t324 + x9_1) % 18446744073709551616) - x10_1) % 18446744073709551616)) := ⟨_, rfl⟩
    replace H : (nat_take.l0 k1 y326 l1 a2 a3 (IntKind.u64.wrap (t323 + ((t324 + x9_1) / 18446744073709551616))) (brw (rd x0_1 (ji12)) ((t324 + x9_1) % 18446744073709551616) x10_1) (l1.length : Int) (wrap64 (x17_1 + 1))) = some (r1, r2) := by first | (rw [hy326]; exact H) | exact H
    have Ny326 := aM hy326
    clear hy326; have H' := aM H; clear H
    have p322 : 0 ≤ (x17_1 : Int) := oD (by first | (with_reducible assumption) | assumption)
    have q322 : x17_1 < (l1.length : Int) := oD (by first | (with_reducible assumption) | assumption)
    obtain ⟨ad322, e322, hx322_0⟩ := Kd.at_int (Kd.C_kept_now HR1.out HK.out) x17_1 p322 q322
    cases e322
    replace p322 := eq_true p322
    replace q322 := eq_true q322
    go_wp2_with (first | ((with_reducible refine gC (f := 40) rfl ?_); refine gL (some 26) rfl rfl Try.func40 (by kernel_rfl) rfl #[.int .u64 a3, .int .u64 (rd l1 x17_1)] rfl (by (try simp only [mA, mC, mN]); first | done | rfl | (simp only [lD, lT]; rfl)) ?_; (with_reducible refine (bits_Mul64.calls a3 (rd l1 x17_1) t323 t324 _ A8.out).mono ?_); rintro e w' ⟨rfl, ⟨nd, rfl⟩⟩; refine ⟨_, rfl, ?_⟩; (try (rw [drewN_self wr]; generalize hq_ : World.drewN wr _ = wr; have n0_ : Aside0 (Kd.R (Kd.int .u64) 65 wr w0.heap.size (fun k_ => (P0_ k_ ∨ w.heap.size ≤ k_)) u9000_ x0_1) := ⟨by rw [← hq_]; exact (by apply_rules [HO_0.out, rN, rD])⟩; have n1_ : Aside0 (Kept w wr (fun k_ => P0_ k_)) := ⟨by rw [← hq_]; exact (by repeat (first | (with_reducible first | exact HK.out | apply Kept.alloc | apply Kept.drewN | apply Kept.drew) | exact HK.out))⟩; have n2_ : Aside0 (Below w0.heap.size w0 wr) := ⟨by rw [← hq_]; exact (by apply_rules [HB.out, bA, pN, bD])⟩; clear HO_0 HK HB hq_; have HO_0 := n0_; have HK := n1_; have HB := n2_; clear n0_ n1_ n2_)); obtain ⟨Ao20, co20, eo20⟩ := Kd.R_slice HO_0.out; subst eo20; have p325 : 0 ≤ ((ji12) : Int) := oD (by first | (with_reducible assumption) | assumption); have q325 : (ji12) < (x0_1.length : Int) := oD (by first | (with_reducible assumption) | assumption); obtain ⟨ad325, e325, hx325_0⟩ := Kd.at_int (rS HO_0.out).2.2 (ji12) p325 q325; cases e325; replace p325 := eq_true p325; replace q325 := eq_true q325; have p19 : 0 ≤ ((ji12) : Int) := oD (by first | (with_reducible assumption) | assumption); have q19 : ((ji12) : Int) < ((x0_1.length : Int) : Int) := oD (by first | (with_reducible assumption) | assumption); obtain ⟨go19, co19, eo19, gb19, gl19, cl19, HG19⟩ := Kd.R_form HO_0.out (by omega); (first | cases eo19 | (injection eo19 with ea_ en_ ec_; (first | subst ea_ | (injection ea_ with ea_; subst ea_)); subst ec_; clear en_)); have GB19 := aM gb19; have GG19 := aM HG19; clear gb19 gl19 HG19; have HMgo19 := aM (show (P0_ go19 ∨ w.heap.size ≤ go19) from (HO_0.out.1 _ rfl)); (first | simp only [add_plain] at hx325_0 | skip); obtain ⟨hx19_0, hf19_0⟩ := Kd.R_celln 0 HO_0.out ((ji12) : Int) p19 q19; replace p19 := eq_true p19; replace q19 := eq_true q19; obtain ⟨hy21_, hz21_⟩ := Kd.R_celln 0 HO_0.out ((ji12) : Int) (oD (by first | (with_reducible assumption) | assumption)) (oD (by first | (with_reducible assumption) | assumption)); have HP21 := Kd.R_putg HO_0.out ((ji12) : Int) (((rd x0_1 (ji12)) + 18446744073709551616 - ((t324 + x9_1) % 18446744073709551616) - x10_1) % 18446744073709551616)) | ((with_reducible refine gate_store (t := 65) (p := 54) rfl ?_); refine store_event (t := 65) (p := 54) (v := ?vo_w22) (w1 := (wr.setCell ⟨go19, ((ji12) : Int).toNat, none⟩ (.int .u64 (((rd x0_1 (ji12)) + 18446744073709551616 - ((t324 + x9_1) % 18446744073709551616) - x10_1) % 18446744073709551616)))) ?hg ?ho ?hn ?hr ?_; (case ho => rfl); (case hg => rfl); (case hn => rfl); (case hr => first | (go_simp; done) | (go_simp; rfl)); intro w22 hw; have hg : wr.grownBy w22 (some go19) := (by rw [hw]; exact HP21.2); have hp_ : Kd.R (Kd.int .u64) 65 w22 w0.heap.size (fun k_ => (P0_ k_ ∨ w.heap.size ≤ k_)) (.slice (some ⟨go19, 0, none⟩) x0_1.length co20) y326 := (by rw [hw, Ny326.out]; exact HP21.1); clear HP21; have n0_ := aM (hp_); have n1_ := aM ((by rw [hw]; exact bE (HB.out) GB19.out : Below w0.heap.size w0 w22)); have n2_ := aM (Kept.of_grown (S := (fun k_ => P0_ k_)) hg (by repeat (first | (with_reducible first | exact HK.out | apply Kept.alloc | apply Kept.drewN | apply Kept.drew) | exact HK.out)) (fun k_ e_ => (HO_0.out.1 k_ e_))); clear HO_0 HB HK; have HO_0 := n0_; have HB := n1_; have HK := n2_; clear n0_ n1_ n2_ hg hw hp_))
    go_roundg k1
    case measure => have := HK1.out; omega
    case rel => exact ⟨(y326), (IntKind.u64.wrap (t323 + ((t324 + x9_1) / 18446744073709551616))), (brw (rd x0_1 (ji12)) ((t324 + x9_1) % 18446744073709551616) x10_1), (wrap64 (x17_1 + 1)), (by first | rfl | (simp; done) | (simp [*]; done)), (by first | rfl | (simp; done) | (simp only [← hji12] <;> (first | rfl | simp)) | (simp [*]; done)), (by first | rfl | (simp; done) | (simp [*]; done)), (by first | exact H' | (have h_ := H'; simp only [← hji12] at h_; exact h_)), ⟨by have := HK1.out; omega⟩, ⟨by apply_rules [HO_0.out, rN, rD]⟩, ⟨by repeat (first | (with_reducible first | exact HK.out | apply Kept.alloc | apply Kept.drewN | apply Kept.drew) | exact HK.out)⟩, ⟨by apply_rules [HB.out, bA, pN, bD]⟩⟩
   ·rw [if_neg c5] at H
    have c5b0 : decide (x17_1 < (l1.length : Int)) = false := decide_eq_false c5
    clear c5
    obtain ⟨ji23, hji23⟩ : ∃ j_ : Int, (wrap64 (a2 + (l1.length : Int))) = j_ := ⟨_, rfl⟩
    replace H : (if 0 ≤ (ji23) then (if (ji23) < (x0_1.length : Int) then (if 0 ≤ (rd x0_1 (ji23)) then (if 0 ≤ x9_1 then (if 0 ≤ x10_1 then (if x10_1 ≤ 1 then (if x9_1 < 18446744073709551616 then (some (decide ((brw (rd x0_1 (ji23)) x9_1 x10_1) > 0), (x0_1.set ((ji23) : Int).toNat (((rd x0_1 (ji23)) + 18446744073709551616 - x9_1 - x10_1) % 18446744073709551616)))) else (none)) else (none)) else (none)) else (none)) else (none)) else (none)) else (none)) = some (r1, r2) := by first | (rw [hji23] at H; exact H) | (simp only [hji23] at H ⊢; exact H)
    have hji23w : (IntKind.i64.wrap (a2 + (l1.length : Int))) = ji23 := (i64_w _).trans hji23
    by_cases c24 : 0 ≤ (ji23)
    rotate_left
    ·rw [if_neg c24] at H; cases H
    rw [if_pos c24] at H
    have c24b0 : decide (0 ≤ (ji23)) = true := dT c24
    clear c24
    by_cases c25 : (ji23) < (x0_1.length : Int)
    rotate_left
    ·rw [if_neg c25] at H; cases H
    rw [if_pos c25] at H
    have c25b0 : decide ((ji23) < (x0_1.length : Int)) = true := dT c25
    clear c25
    by_cases c26 : 0 ≤ (rd x0_1 (ji23))
    rotate_left
    ·rw [if_neg c26] at H; cases H
    rw [if_pos c26] at H
    have c26b0 := eq_true c26
    have c26b1 : decide (0 ≤ (rd x0_1 (ji23))) = true := dT c26
    clear c26
    by_cases c27 : 0 ≤ x9_1
    rotate_left
    ·rw [if_neg c27] at H; cases H
    rw [if_pos c27] at H
    have c27b0 := eq_true c27
    have c27b1 : decide (0 ≤ x9_1) = true := dT c27
    clear c27
    by_cases c28 : 0 ≤ x10_1
    rotate_left
    ·rw [if_neg c28] at H; cases H
    rw [if_pos c28] at H
    have c28b0 := eq_true c28
    have c28b1 : decide (0 ≤ x10_1) = true := dT c28
    clear c28
    by_cases c29 : x10_1 ≤ 1
    rotate_left
    ·rw [if_neg c29] at H; cases H
    rw [if_pos c29] at H
    have c29b0 := eq_true c29
    have c29b1 : decide (x10_1 ≤ 1) = true := dT c29
    clear c29
    by_cases c30 : x9_1 < 18446744073709551616
    rotate_left
    ·rw [if_neg c30] at H; cases H
    rw [if_pos c30] at H
    have c30b0 := eq_true c30
    have c30b1 : decide (x9_1 < 18446744073709551616) = true := dT c30
    clear c30
    have hx31 := fun w_ => call_sub64_44 (rd x0_1 (ji23)) x9_1 x10_1 (oD (by first | decide | (with_reducible assumption) | assumption | (simp only [decide_eq_true_eq]; omega))) (oD (by first | decide | (with_reducible assumption) | assumption | (simp only [decide_eq_true_eq]; omega))) (oD (by first | decide | (with_reducible assumption) | assumption | (simp only [decide_eq_true_eq]; omega))) (oD (by first | decide | (with_reducible assumption) | assumption | (simp only [decide_eq_true_eq]; omega))) (oD (by first | decide | (with_reducible assumption) | assumption | (simp only [decide_eq_true_eq]; omega))) w_
    obtain ⟨y328, hy328⟩ : ∃ y_ : List Int, y_ = (x0_1.set ((ji23) : Int).toNat (((rd x0_1 (ji23)) + 18446744073709551616 - x9_1 - x10_1) % 18446744073709551616)) := ⟨_, rfl⟩
    replace H : (some (decide ((brw (rd x0_1 (ji23)) x9_1 x10_1) > 0), y328)) = some (r1, r2) := by first | (rw [hy328]; exact H) | exact H
    have Ny328 := aM hy328
    clear hy328
    simp only [Option.some.injEq, Prod.mk.injEq] at H
    obtain ⟨rfl, rfl⟩ := H
    obtain ⟨Ao33, co33, eo33⟩ := Kd.R_slice HO_0.out
    subst eo33
    have p327 : 0 ≤ ((ji23) : Int) := oD (by first | (with_reducible assumption) | assumption)
    have q327 : (ji23) < (x0_1.length : Int) := oD (by first | (with_reducible assumption) | assumption)
    obtain ⟨ad327, e327, hx327_0⟩ := Kd.at_int (rS HO_0.out).2.2 (ji23) p327 q327
    cases e327
    replace p327 := eq_true p327
    replace q327 := eq_true q327
    have p32 : 0 ≤ ((ji23) : Int) := oD (by first | (with_reducible assumption) | assumption)
    have q32 : ((ji23) : Int) < ((x0_1.length : Int) : Int) := oD (by first | (with_reducible assumption) | assumption)
    obtain ⟨go32, co32, eo32, gb32, gl32, cl32, HG32⟩ := Kd.R_form HO_0.out (by omega)
    (first | cases eo32 | (injection eo32 with ea_ en_ ec_; (first | subst ea_ | (injection ea_ with ea_; subst ea_)); subst ec_; clear en_))
    have GB32 := aM gb32
    have GG32 := aM HG32
    clear gb32 gl32 HG32
    have HMgo32 := aM (show (P0_ go32 ∨ w.heap.size ≤ go32) from (HO_0.out.1 _ rfl))
    (first | simp only [add_plain] at hx327_0 | skip)
    obtain ⟨hx32_0, hf32_0⟩ := Kd.R_celln 0 HO_0.out ((ji23) : Int) p32 q32
    replace p32 := eq_true p32
    replace q32 := eq_true q32
    have HP34 := Kd.R_putg HO_0.out ((ji23) : Int) (((rd x0_1 (ji23)) + 18446744073709551616 - x9_1 - x10_1) % 18446744073709551616)
    go_wp2_with (first | ((with_reducible refine gate_store (t := 65) (p := 74) rfl ?_); refine store_event (t := 65) (p := 74) (v := ?vo_w35) (w1 := (wr.setCell ⟨go32, ((ji23) : Int).toNat, none⟩ (.int .u64 (((rd x0_1 (ji23)) + 18446744073709551616 - x9_1 - x10_1) % 18446744073709551616)))) ?hg ?ho ?hn ?hr ?_; (case ho => rfl); (case hg => rfl); (case hn => rfl); (case hr => first | (go_simp; done) | (go_simp; rfl)); intro w35 hw; have hg : wr.grownBy w35 (some go32) := (by rw [hw]; exact HP34.2); have hp_ : Kd.R (Kd.int .u64) 65 w35 w0.heap.size (fun k_ => (P0_ k_ ∨ w.heap.size ≤ k_)) (.slice (some ⟨go32, 0, none⟩) x0_1.length co33) y328 := (by rw [hw, Ny328.out]; exact HP34.1); clear HP34; have n0_ := aM (hp_); have n1_ := aM ((by rw [hw]; exact bE (HB.out) GB32.out : Below w0.heap.size w0 w35)); have n2_ := aM (Kept.of_grown (S := (fun k_ => P0_ k_)) hg (by repeat (first | (with_reducible first | exact HK.out | apply Kept.alloc | apply Kept.drewN | apply Kept.drew) | exact HK.out)) (fun k_ e_ => (HO_0.out.1 k_ e_))); clear HO_0 HB HK; have HO_0 := n0_; have HB := n1_; have HK := n2_; clear n0_ n1_ n2_ hg hw hp_))
    go_ret
    exact ⟨by first | rfl | (simp [errW_none, errW_some] <;> rfl) | (simp only [← hji23]; first | rfl | (simp [errW_none, errW_some] <;> rfl)) | (simp [*, errW_none, errW_some] <;> rfl), by (with_reducible repeat (first | apply rN | apply rD)); exact HO_0.out, by apply_rules [HB.out, bA, pN, bD], by repeat (first | (with_reducible first | exact HK.out | apply Kept.alloc | apply Kept.drewN | apply Kept.drew) | exact HK.out)⟩
end Go.Proofs.Ytaoekkikpceccaa.QLoadAdmitKeepsTheLimit
