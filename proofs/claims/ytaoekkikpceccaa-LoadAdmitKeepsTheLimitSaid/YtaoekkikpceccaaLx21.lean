/- Lean functions that answer as Go functions of this seat do, each with its proof. Condition: the Lean function answers 'some'. -/
import Derived.Test.YtaoekkikpceccaaLx0
import Derived.Test.YtaoekkikpceccaaLx3
import Derived.Test.YtaoekkikpceccaaLx18
import Derived.Test.YtaoekkikpceccaaLx19
import Derived.Test.YtaoekkikpceccaaLx20
namespace Go.Proofs.Ytaoekkikpceccaa.QLoadAdmitKeepsTheLimit
open Go.RowKit Go.Proofs.YtaoekkikpceccaaW.PrintWords Go.Proofs.YtaoekkikpceccaaW.PrintLast Go.Proofs.YtaoekkikpceccaaW.PrintMore
attribute [local go_sem] max2_int min2_int max_two min_two
set_option linter.unusedVariables false
set_option maxHeartbeats 8000000
set_option maxRecDepth 100000
set_option linter.unusedSimpArgs false
mutual
def dynamometerlaw7_LoadAdmitKeepsTheLimit.j0 : Nat → List Int → Int → Int → List Int → Bool → Option (Bool)
 | 0, _, _, _, _, _ => none
 | k + 1, x0, x1, x2, x7, x26 => if x26 = true then ((dynamometerlaw7_even.f k).bind fun t535 => (some t535)) else (if (x7.length : Int) = (x0.length : Int) then (dynamometerlaw7_LoadAdmitKeepsTheLimit.l0 k x0 x1 x2 x7 0) else (some false))
def dynamometerlaw7_LoadAdmitKeepsTheLimit.l0 : Nat → List Int → Int → Int → List Int → Int → Option (Bool)
 | 0, _, _, _, _, _ => none
 | k + 1, x0, x1, x2, x7, x9 => if x9 < (x7.length : Int) then (if 0 ≤ x9 then (if x9 < (x0.length : Int) then (if (rd x7 x9) < (rd x0 x9) then (dynamometerlaw7_LoadAdmitKeepsTheLimit.j2 k x0 x1 x2 x7 x9 true) else (if x9 > 0 then (if 0 ≤ (wrap64 (x9 - 1)) then (if (wrap64 (x9 - 1)) < (x7.length : Int) then (dynamometerlaw7_LoadAdmitKeepsTheLimit.j2 k x0 x1 x2 x7 x9 (decide ((rd x7 x9) < (rd x7 (wrap64 (x9 - 1)))))) else (none)) else (none)) else (dynamometerlaw7_LoadAdmitKeepsTheLimit.j2 k x0 x1 x2 x7 x9 false))) else (none)) else (none)) else ((dynamometerlaw7_even.f k).bind fun t536 => (some t536))
def dynamometerlaw7_LoadAdmitKeepsTheLimit.j2 : Nat → List Int → Int → Int → List Int → Int → Bool → Option (Bool)
 | 0, _, _, _, _, _, _ => none
 | k + 1, x0, x1, x2, x7, x9, x63 => if x63 = true then (some false) else (dynamometerlaw7_LoadAdmitKeepsTheLimit.l1 k x0 x1 x2 x7 x9 x9)
def dynamometerlaw7_LoadAdmitKeepsTheLimit.l1 : Nat → List Int → Int → Int → List Int → Int → Int → Option (Bool)
 | 0, _, _, _, _, _, _ => none
 | k + 1, x0, x1, x2, x7, x9, x10 => if x10 < (x7.length : Int) then ((dynamometerref0_Of.f k (wrap64 ((wrap64 (x10 - x9)) + 1))).bind fun t541 => ((dynamometerref0_Of.f k 1000000000).bind fun t544 => ((dynamometerref0_Mul.f k t541 t544).bind fun t547 => ((dynamometerref0_Of.f k x2).bind fun t550 => ((dynamometerref0_Of.f k 1000000000).bind fun t553 => ((dynamometerref0_Mul.f k t550 t553).bind fun t556 => ((dynamometerref0_Of.f k x1).bind fun t559 => (if 0 ≤ x10 then (if 0 ≤ x9 then (if x9 < (x7.length : Int) then ((dynamometerref0_Of.f k (wrap64 ((rd x7 x10) - (rd x7 x9)))).bind fun t564 => ((dynamometerref0_Mul.f k t559 t564).bind fun t567 => ((dynamometerref0_Add.f k t556 t567).bind fun t570 => ((dynamometerref0_Cmp.f k t547 t570).bind fun t573 => (if t573 > 0 then (some false) else (dynamometerlaw7_LoadAdmitKeepsTheLimit.l1 k x0 x1 x2 x7 x9 (wrap64 (x10 + 1)))))))) else (none)) else (none)) else (none))))))))) else (dynamometerlaw7_LoadAdmitKeepsTheLimit.l0 k x0 x1 x2 x7 (wrap64 (x9 + 1)))
end
def dynamometerlaw7_LoadAdmitKeepsTheLimit.f (k : Nat) (l0 : List Int) (a1 : Int) (a2 : Int) : Option (Bool) := (load_Admit.f k l0 a1 a2).bind fun bt531 => (if bt531.2 = 0 then (dynamometerlaw7_LoadAdmitKeepsTheLimit.j0 k l0 a1 a2 bt531.1 (decide ((l0.length : Int) > 100))) else (dynamometerlaw7_LoadAdmitKeepsTheLimit.j0 k l0 a1 a2 bt531.1 true))
def dynamometerlaw7_LoadAdmitKeepsTheLimit.T9 : Bool × List (List Nat × List Nat) := (true, [([], []), ([], []), ([0, 1], [0, 1]), ([2], [2]), ([], []), ([], []), ([4, 5], [4, 5]), ([6], [6]), ([3, 7], [3, 7]), ([8], [8]), ([9], [9]), ([10, 9], [9, 10]), ([11, 9, 9], [9, 11]), ([12], [12]), ([12], [12]), ([13, 14, 12], [12, 13, 14]), ([15, 12], [12, 15]), ([12], [12]), ([12], [12]), ([18, 12], [12, 18]), ([17, 19, 12], [12, 17, 19]), ([20, 12], [12, 20]), ([16, 21, 12], [12, 16, 21]), ([12, 22, 9], [9, 12, 22]), ([9, 23], [9, 23])])
def dynamometerlaw7_LoadAdmitKeepsTheLimit.B9 : List Nat := [0, 0, 3, 7, 0, 0, 48, 112, 255, 511, 1023, 2047, 4095, 8191, 8191, 32767, 65535, 8191, 8191, 270335, 925695, 1974271, 4194303, 8388607, 16777215]
theorem dynamometerlaw7_LoadAdmitKeepsTheLimit.tab9 : rtab .any (opsOf Try.f3 9) = dynamometerlaw7_LoadAdmitKeepsTheLimit.T9 := by kernel_rfl
theorem dynamometerlaw7_LoadAdmitKeepsTheLimit.bits9 : waitsOk dynamometerlaw7_LoadAdmitKeepsTheLimit.T9.2 dynamometerlaw7_LoadAdmitKeepsTheLimit.B9 = true := by kernel_rfl
def dynamometerlaw7_LoadAdmitKeepsTheLimit.T15 : Bool × List (List Nat × List Nat) := (true, [([], []), ([0], [0]), ([1], []), ([1, 2, 2], [1, 2]), ([], []), ([4, 3], [4]), ([], []), ([], []), ([6, 7], [6, 7]), ([8], [8]), ([], []), ([], []), ([10, 11], [10, 11]), ([12], [12]), ([9, 13], [9, 13]), ([14, 5], [14]), ([5, 15, 15], [5, 15]), ([3, 16, 16], [3, 16]), ([17, 17, 0, 1, 2, 3, 4, 5, 6, 7, 8, 9, 10, 11, 12, 13, 14, 15, 16, 17], [17])])
def dynamometerlaw7_LoadAdmitKeepsTheLimit.B15 : List Nat := [0, 1, 3, 7, 0, 31, 0, 0, 192, 448, 0, 0, 3072, 7168, 16320, 32767, 65535, 131071, 262143]
theorem dynamometerlaw7_LoadAdmitKeepsTheLimit.tab15 : rtab .any (opsOf Try.f3 15) = dynamometerlaw7_LoadAdmitKeepsTheLimit.T15 := by kernel_rfl
theorem dynamometerlaw7_LoadAdmitKeepsTheLimit.bits15 : waitsOk dynamometerlaw7_LoadAdmitKeepsTheLimit.T15.2 dynamometerlaw7_LoadAdmitKeepsTheLimit.B15 = true := by kernel_rfl
theorem dynamometerlaw7_LoadAdmitKeepsTheLimit.calls (k : Nat) (A0 : Option Addr) (c0 : Nat) (l0 : List Int) (a1 : Int) (a2 : Int) (r : Bool) (w : World) (hr0 : Kd.C (Kd.int .i64) w A0 l0.length l0) (hc0 : l0.length ≤ c0) (h : dynamometerlaw7_LoadAdmitKeepsTheLimit.f k l0 a1 a2 = some r) :
  Calls Try.prog 3 #[.slice A0 l0.length c0, .int .i64 a1, .int .i64 a2] w fun e w' => e = .returned (.bool r) ∧ Below w.heap.size w w' := by
 have HR0 := aM hr0
 have HC0 := aM hc0
 clear hr0 hc0
 have HB := aM (Below.refl w.heap.size w)
 have H : ((load_Admit.f k l0 a1 a2).bind fun bt531 => (if bt531.2 = 0 then (dynamometerlaw7_LoadAdmitKeepsTheLimit.j0 k l0 a1 a2 bt531.1 (decide ((l0.length : Int) > 100))) else (dynamometerlaw7_LoadAdmitKeepsTheLimit.j0 k l0 a1 a2 bt531.1 true))) = some r := h
 clear h
 replace H := oB H
 obtain ⟨⟨t531, t532⟩, A40, H⟩ := H
 replace H : (if t532 = 0 then (dynamometerlaw7_LoadAdmitKeepsTheLimit.j0 k l0 a1 a2 t531 (decide ((l0.length : Int) > 100))) else (dynamometerlaw7_LoadAdmitKeepsTheLimit.j0 k l0 a1 a2 t531 true)) = some r := H
 have A4 := aM A40; clear A40; have HC5 := aM H; clear H
 go_enter Try.func3, Try.ntmps3
 go_upto_region 2 with (first | ((with_reducible refine gC (f := 4) rfl ?_); refine gL (some 17) rfl rfl Try.func4 (by kernel_rfl) rfl #[.slice A0 l0.length c0, .int .i64 a1, .int .i64 a2] rfl (by (try simp only [mA, mC, mN]); first | done | rfl | (simp only [lD, lT]; rfl)) ?_; (with_reducible refine (load_Admit.calls k _ _ l0 a1 a2 t531 t532 _ ?side1 ?side2 A4.out).mono ?_); (case side1 => repeat (first | exact HR0.out | (with_reducible refine cA ?_ _) | (with_reducible refine cN ?_ _) | (with_reducible refine cD ?_))); (case side2 => exact HC0.out); rintro e w6 ⟨v533, rfl, ho0, hb⟩; refine ⟨_, rfl, ?_⟩; have n0_ := aM (Kd.R_lower ho0 (bZ (by apply_rules [HB.out, bA, pN, bD]))); have n1_ := aM (bS (by apply_rules [HB.out, bA, pN, bD]) hb); clear HB; have HO534 := n0_; have HB := n1_; clear n0_ n1_; (try clear hb); (try clear hb2); (try clear hk); (try clear hi); (try clear ho0)))
 (try simp only [Act.put, sI, sZ, sS])
 go_cut [26] (fun v26 wc => ∃ (kq : Nat) (x26_4 : Bool), v26 = .bool x26_4 ∧ Aside0 (dynamometerlaw7_LoadAdmitKeepsTheLimit.j0 kq l0 a1 a2 t531 x26_4 = some r) ∧ Aside0 (kq ≤ k) ∧ Aside0 (Kd.R (Kd.int .i64) 3 wc w.heap.size (fun _ => True) v533 t531) ∧ Aside0 (Below w.heap.size w wc))
 case first =>
  have H := HC5.out
  clear HC5
  by_cases c7 : t532 = 0
  ·rw [if_pos c7] at H
   have c7b0 : (t532 == 0) = true := beq_iff_eq.mpr c7
   have c7b1 : (t532 != 0) = false := bne_eq_false_iff_eq.mpr c7
   clear c7
   (first | rw [c7b0] | (simp only [i64_w, i32_w]; rw [c7b0]) | skip)
   have H' := aM H; clear H
   go_wp2
   go_meet
   case rel => exact ⟨_, (decide ((l0.length : Int) > 100)), (by first | rfl | (simp; done) | (simp [*]; done)), H', ⟨by first | omega | exact Nat.le_refl _⟩, ⟨by apply_rules [HO534.out, rN, rD]⟩, ⟨by apply_rules [HB.out, bA, pN, bD]⟩⟩
  ·rw [if_neg c7] at H
   have c7b0 : (t532 == 0) = false := beq_eq_false_iff_ne.mpr c7
   have c7b1 : (t532 != 0) = true := bne_iff_ne.mpr c7
   (first | rw [c7b0] | (simp only [i64_w, i32_w]; rw [c7b0]) | skip)
   have H' := aM H; clear H
   go_wp2
   go_meet
   case rel => exact ⟨_, (true), (by first | rfl | (simp; done) | (simp [*]; done)), H', ⟨by first | omega | exact Nat.le_refl _⟩, ⟨by apply_rules [HO534.out, rN, rD]⟩, ⟨by apply_rules [HB.out, bA, pN, bD]⟩⟩
 case rest =>
  clear HC5
  try clear p2
  try clear c3
  try clear c4
  try clear c7
  try clear c7b0
  try clear c7b1
  obtain ⟨kq, x26_4, rfl, HA, HJ4, HO_7, HB⟩ := hcut
  cases kq with
  | zero => exact absurd HA.out (by simp [dynamometerlaw7_LoadAdmitKeepsTheLimit.j0])
  | succ kj4 =>
   have H := HA.out
   clear HA
   simp only [dynamometerlaw7_LoadAdmitKeepsTheLimit.j0] at H
   by_cases c8 : x26_4 = true
   ·subst c8
    have H1 : ((dynamometerlaw7_even.f kj4).bind fun t535 => (some t535)) = some r := by rw [if_pos rfl] at H; exact H
    clear H
    have H := H1
    clear H1
    replace H := oB H
    obtain ⟨t535, A90, H⟩ := H
    replace H : (some t535) = some r := H
    have A9 := aM A90; clear A90
    obtain rfl := Option.some.inj H
    go_wp2_with (first | ((with_reducible refine gC (f := 5) rfl ?_); refine gL (some 27) rfl rfl Try.func5 (by kernel_rfl) rfl #[] rfl (by (try simp only [mA, mC, mN]); first | done | rfl | (simp only [lD, lT]; rfl)) ?_; (with_reducible refine (dynamometerlaw7_even.calls kj4  t535 _ A9.out).mono ?_); rintro e w10 ⟨rfl, hb⟩; refine ⟨_, rfl, ?_⟩; have n0_ := aM (rO (by apply_rules [HO_7.out, rN, rD]) hb); have n1_ := aM (bS (by apply_rules [HB.out, bA, pN, bD]) hb); clear HO_7 HB; have HO_7 := n0_; have HB := n1_; clear n0_ n1_; (try clear hb); (try clear hb2); (try clear hk); (try clear hi)))
    go_ret
    exact ⟨by first | rfl | (simp [errW_none, errW_some] <;> rfl) | (simp [*, errW_none, errW_some] <;> rfl), by apply_rules [HB.out, bA, pN, bD]⟩
   ·replace c8 := Bool.eq_false_iff.mpr c8
    subst c8
    have H1 : (if (t531.length : Int) = (l0.length : Int) then (dynamometerlaw7_LoadAdmitKeepsTheLimit.l0 kj4 l0 a1 a2 t531 0) else (some false)) = some r := by rw [if_neg (show ¬ (false = true) by decide)] at H; exact H
    clear H
    have H := H1
    clear H1
    by_cases c11 : (t531.length : Int) = (l0.length : Int)
    ·rw [if_pos c11] at H
     have c11b0 : ((t531.length : Int) == (l0.length : Int)) = true := beq_iff_eq.mpr c11
     have c11b1 : ((t531.length : Int) != (l0.length : Int)) = false := bne_eq_false_iff_eq.mpr c11
     have c11b2 : (t531.length == l0.length) = true := by first | simpa using c11 | (simp at c11 ⊢; omega)
     clear c11; have H' := aM H; clear H
     obtain ⟨Ao12, co12, eo12⟩ := Kd.R_slice HO_7.out
     subst eo12
     go_wp2
     go_loopg [9] kj4 (fun kq v9 w' => ∃ (x9_2 : Int), v9 = .int .i64 x9_2 ∧ Aside0 (dynamometerlaw7_LoadAdmitKeepsTheLimit.l0 kq l0 a1 a2 t531 x9_2 = some r) ∧ Aside0 (kq ≤ kj4) ∧ Aside0 (Kd.R (Kd.int .i64) 3 w' w.heap.size (fun _ => True) (.slice Ao12 t531.length co12) t531) ∧ Aside0 (Below w.heap.size w w'))
     case atStart => exact ⟨(0), (by first | rfl | (simp; done) | (simp [*]; done)), H', ⟨Nat.le_refl _⟩, ⟨by apply_rules [HO_7.out, rN, rD]⟩, ⟨by apply_rules [HB.out, bA, pN, bD]⟩⟩
     case round =>
      clear H'
      try clear c1
      try clear p2
      try clear c3
      try clear c4
      try clear c5
      try clear c7
      try clear c7b0
      try clear c7b1
      try clear c8
      try clear c11
      try clear c11b0
      try clear c11b1
      try clear c11b2
      try clear p2
      obtain ⟨x9_2, rfl, HA, HK2, HO_7, HB⟩ := hrel
      cases gk with
      | zero => exact absurd HA.out (by simp [dynamometerlaw7_LoadAdmitKeepsTheLimit.l0])
      | succ k2 =>
       have H := HA.out
       clear HA
       simp only [dynamometerlaw7_LoadAdmitKeepsTheLimit.l0] at H
       by_cases c13 : x9_2 < (t531.length : Int)
       ·rw [if_pos c13] at H
        have c13b0 : decide (x9_2 < (t531.length : Int)) = true := dT c13
        clear c13; have HC14 := aM H; clear H
        go_upto_region 9 with (fail)
        go_cut [63] (fun v63 wc => ∃ (kq : Nat) (x63_13 : Bool), v63 = .bool x63_13 ∧ Aside0 (dynamometerlaw7_LoadAdmitKeepsTheLimit.j2 kq l0 a1 a2 t531 x9_2 x63_13 = some r) ∧ Aside0 (kq ≤ k2) ∧ Aside0 (Kd.R (Kd.int .i64) 3 wc w.heap.size (fun _ => True) (.slice Ao12 t531.length co12) t531) ∧ Aside0 (Below w.heap.size w wc))
        case first =>
         have H := HC14.out
         clear HC14
         by_cases c15 : 0 ≤ x9_2
         rotate_left
         ·rw [if_neg c15] at H; cases H
         rw [if_pos c15] at H
         have c15b0 : decide (0 ≤ x9_2) = true := dT c15
         clear c15
         (first | rw [c15b0] | (simp only [i64_w, i32_w]; rw [c15b0]) | skip)
         by_cases c16 : x9_2 < (l0.length : Int)
         rotate_left
         ·rw [if_neg c16] at H; cases H
         rw [if_pos c16] at H
         have c16b0 : decide (x9_2 < (l0.length : Int)) = true := dT c16
         clear c16
         by_cases c17 : (rd t531 x9_2) < (rd l0 x9_2)
         ·rw [if_pos c17] at H
          have c17b0 : decide ((rd t531 x9_2) < (rd l0 x9_2)) = true := dT c17
          clear c17; have H' := aM H; clear H
          try go_wp2
          have n0_ := aM (rD HO_7.out); have n1_ := aM (bD HB.out); clear HO_7 HB; have HO_7 := n0_; have HB := n1_; clear n0_ n1_
          have p537 : 0 ≤ (x9_2 : Int) := oD (by first | (with_reducible assumption) | assumption)
          have q537 : x9_2 < (t531.length : Int) := oD (by first | (with_reducible assumption) | assumption)
          obtain ⟨ad537, e537, hx537_0⟩ := Kd.at_int (rS HO_7.out).2.2 x9_2 p537 q537
          cases e537
          replace p537 := eq_true p537
          replace q537 := eq_true q537
          have p538 : 0 ≤ (x9_2 : Int) := oD (by first | (with_reducible assumption) | assumption)
          have q538 : x9_2 < (l0.length : Int) := oD (by first | (with_reducible assumption) | assumption)
          obtain ⟨ad538, e538, hx538_0⟩ := Kd.at_int HR0.out x9_2 p538 q538
          have hw538_0 := hx538_0
          cases e538
          replace hx538_0 := (HB.out.cell (wL w _ hx538_0)).trans hx538_0
          replace p538 := eq_true p538
          replace q538 := eq_true q538
          refine start_ (n := 25) (S := fun w' => w'.cell? (ad537.add (x9_2).toNat) = some (.int .i64 (rd t531 x9_2)) ∧ w'.cell? (ad538.add (x9_2).toNat) = some (.int .i64 (rd l0 x9_2))) (ds := []) #[false, false, false, false, false, false, false, false, false, false, false, false, false, false, false, false, false, false, false, false, false, false, false, false, false] (by kernel_rfl) rfl rfl ⟨hx537_0, ((HB.out.cell (wL w _ hw538_0)).trans hw538_0)⟩ (fun hHeld => ?_); refine with_tabW dynamometerlaw7_LoadAdmitKeepsTheLimit.tab9 dynamometerlaw7_LoadAdmitKeepsTheLimit.bits9 (fun HT_ HW_ => ?_)
          generalize wr.drew = w18 at HO_7 HB hx537_0 hx538_0 hHeld ⊢
          refine pure_ (i := 0) (N := some 39) (v := ?_) (a' := ?_) #[true, false, false, false, false, false, false, false, false, false, false, false, false, false, false, false, false, false, false, false, false, false, false, false, false] rfl rfl (any_of HT_.out (by kernel_rfl)) (fun _ _ _ h => h) (Or.inl ⟨by rfl, ?_⟩) ?_ ?_
          rotate_left
          ·intro w'
           go_simp
           with_reducible rfl
          rotate_left
          ·simp only [Act.put, sI, sZ, sS, i64_w]
           rfl
          refine pure_ (i := 1) (N := some 40) (v := ?_) (a' := ?_) #[true, true, false, false, false, false, false, false, false, false, false, false, false, false, false, false, false, false, false, false, false, false, false, false, false] rfl rfl (any_of HT_.out (by kernel_rfl)) (fun _ _ _ h => h) (Or.inl ⟨by rfl, ?_⟩) ?_ ?_
          rotate_left
          ·intro w'
           go_simp
           with_reducible rfl
          rotate_left
          ·simp only [Act.put, sI, sZ, sS, i64_w]
           rfl
          refine pure_ (i := 2) (N := some 41) (v := ?_) (a' := ?_) #[true, true, true, false, false, false, false, false, false, false, false, false, false, false, false, false, false, false, false, false, false, false, false, false, false] rfl rfl (any_of HT_.out (by kernel_rfl)) (fun _ _ _ h => h) (Or.inl ⟨by rfl, ?_⟩) ?_ ?_
          rotate_left
          ·intro w'
           go_simp
           with_reducible rfl
          rotate_left
          ·simp only [Act.put, sI, sZ, sS, i64_w]
           rfl
          refine pure_ (i := 4) (N := some 43) (v := ?_) (a' := ?_) #[true, true, true, false, true, false, false, false, false, false, false, false, false, false, false, false, false, false, false, false, false, false, false, false, false] rfl rfl (any_of HT_.out (by kernel_rfl)) (fun _ _ _ h => h) (Or.inl ⟨by rfl, ?_⟩) ?_ ?_
          rotate_left
          ·intro w'
           go_simp
           with_reducible rfl
          rotate_left
          ·simp only [Act.put, sI, sZ, sS, i64_w]
           rfl
          refine pure_ (i := 5) (N := some 44) (v := ?_) (a' := ?_) #[true, true, true, false, true, true, false, false, false, false, false, false, false, false, false, false, false, false, false, false, false, false, false, false, false] rfl rfl (any_of HT_.out (by kernel_rfl)) (fun _ _ _ h => h) (Or.inl ⟨by rfl, ?_⟩) ?_ ?_
          rotate_left
          ·intro w'
           go_simp
           with_reducible rfl
          rotate_left
          ·simp only [Act.put, sI, sZ, sS, i64_w]
           rfl
          refine pure_ (i := 6) (N := some 45) (v := ?_) (a' := ?_) #[true, true, true, false, true, true, true, false, false, false, false, false, false, false, false, false, false, false, false, false, false, false, false, false, false] rfl rfl (any_of HT_.out (by kernel_rfl)) (fun _ _ _ h => h) (Or.inl ⟨by rfl, ?_⟩) ?_ ?_
          rotate_left
          ·intro w'
           go_simp
           with_reducible rfl
          rotate_left
          ·simp only [Act.put, sI, sZ, sS, i64_w]
           rfl
          refine take_ (i := 3) (N := some 42) (v := ?_) (a' := ?_) #[true, true, true, true, true, true, true, false, false, false, false, false, false, false, false, false, false, false, false, false, false, false, false, false, false] rfl rfl (take_ofW HT_.out HW_.out (by kernel_rfl)) (fun _ _ _ h => h) (Or.inl ⟨by rfl, ?_⟩) hHeld ?_ ?_
          rotate_left
          ·rintro w' ⟨s0, s1⟩
           go_simp
           with_reducible rfl
          rotate_left
          ·simp only [Act.put, sI, sZ, sS, i64_w]
           rfl
          refine take_ (i := 7) (N := some 46) (v := ?_) (a' := ?_) #[true, true, true, true, true, true, true, true, false, false, false, false, false, false, false, false, false, false, false, false, false, false, false, false, false] rfl rfl (take_ofW HT_.out HW_.out (by kernel_rfl)) (fun _ _ _ h => h) (Or.inl ⟨by rfl, ?_⟩) hHeld ?_ ?_
          rotate_left
          ·rintro w' ⟨s0, s1⟩
           go_simp
           with_reducible rfl
          rotate_left
          ·simp only [Act.put, sI, sZ, sS, i64_w]
           rfl
          refine pure_ (i := 8) (N := some 47) (v := ?_) (a' := ?_) #[true, true, true, true, true, true, true, true, true, false, false, false, false, false, false, false, false, false, false, false, false, false, false, false, false] rfl rfl (any_of HT_.out (by kernel_rfl)) (fun _ _ _ h => h) (Or.inl ⟨by rfl, ?_⟩) ?_ ?_
          rotate_left
          ·intro w'
           go_simp
           with_reducible rfl
          rotate_left
          ·simp only [Act.put, sI, sZ, sS, i64_w]
           rfl
          refine pure_ (i := 9) (N := some 48) (v := ?_) (a' := ?_) #[true, true, true, true, true, true, true, true, true, true, false, false, false, false, false, false, false, false, false, false, false, false, false, false, false] rfl rfl (any_of HT_.out (by kernel_rfl)) (fun _ _ _ h => h) (Or.inl ⟨by rfl, ?_⟩) ?_ ?_
          rotate_left
          ·intro w'
           go_simp
           with_reducible rfl
          rotate_left
          ·simp only [Act.put, sI, sZ, sS, i64_w]
           rfl
          refine pure_ (i := 10) (N := some 49) (v := undef) (a' := ?_) #[true, true, true, true, true, true, true, true, true, true, true, false, false, false, false, false, false, false, false, false, false, false, false, false, false] rfl rfl (any_of HT_.out (by kernel_rfl)) (fun _ _ _ h => h) (Or.inr ⟨by rfl, rfl⟩) ?_ ?_
          rotate_left
          ·simp only [Act.put, sI, sZ, sS, i64_w]
           rfl
          refine pure_ (i := 11) (N := some 50) (v := undef) (a' := ?_) #[true, true, true, true, true, true, true, true, true, true, true, true, false, false, false, false, false, false, false, false, false, false, false, false, false] rfl rfl (any_of HT_.out (by kernel_rfl)) (fun _ _ _ h => h) (Or.inr ⟨by rfl, rfl⟩) ?_ ?_
          rotate_left
          ·simp only [Act.put, sI, sZ, sS, i64_w]
           rfl
          refine pure_ (i := 12) (N := some 51) (v := undef) (a' := ?_) #[true, true, true, true, true, true, true, true, true, true, true, true, true, false, false, false, false, false, false, false, false, false, false, false, false] rfl rfl (any_of HT_.out (by kernel_rfl)) (fun _ _ _ h => h) (Or.inr ⟨by rfl, rfl⟩) ?_ ?_
          rotate_left
          ·simp only [Act.put, sI, sZ, sS, i64_w]
           rfl
          refine pure_ (i := 13) (N := some 52) (v := undef) (a' := ?_) #[true, true, true, true, true, true, true, true, true, true, true, true, true, true, false, false, false, false, false, false, false, false, false, false, false] rfl rfl (any_of HT_.out (by kernel_rfl)) (fun _ _ _ h => h) (Or.inr ⟨by rfl, rfl⟩) ?_ ?_
          rotate_left
          ·simp only [Act.put, sI, sZ, sS, i64_w]
           rfl
          refine pure_ (i := 14) (N := some 53) (v := undef) (a' := ?_) #[true, true, true, true, true, true, true, true, true, true, true, true, true, true, true, false, false, false, false, false, false, false, false, false, false] rfl rfl (any_of HT_.out (by kernel_rfl)) (fun _ _ _ h => h) (Or.inr ⟨by rfl, rfl⟩) ?_ ?_
          rotate_left
          ·simp only [Act.put, sI, sZ, sS, i64_w]
           rfl
          refine pure_ (i := 15) (N := some 54) (v := undef) (a' := ?_) #[true, true, true, true, true, true, true, true, true, true, true, true, true, true, true, true, false, false, false, false, false, false, false, false, false] rfl rfl (any_of HT_.out (by kernel_rfl)) (fun _ _ _ h => h) (Or.inr ⟨by rfl, rfl⟩) ?_ ?_
          rotate_left
          ·simp only [Act.put, sI, sZ, sS, i64_w]
           rfl
          refine pure_ (i := 16) (N := some 55) (v := undef) (a' := ?_) #[true, true, true, true, true, true, true, true, true, true, true, true, true, true, true, true, true, false, false, false, false, false, false, false, false] rfl rfl (any_of HT_.out (by kernel_rfl)) (fun _ _ _ h => h) (Or.inr ⟨by rfl, rfl⟩) ?_ ?_
          rotate_left
          ·simp only [Act.put, sI, sZ, sS, i64_w]
           rfl
          refine pure_ (i := 17) (N := some 56) (v := undef) (a' := ?_) #[true, true, true, true, true, true, true, true, true, true, true, true, true, true, true, true, true, true, false, false, false, false, false, false, false] rfl rfl (any_of HT_.out (by kernel_rfl)) (fun _ _ _ h => h) (Or.inr ⟨by rfl, rfl⟩) ?_ ?_
          rotate_left
          ·simp only [Act.put, sI, sZ, sS, i64_w]
           rfl
          refine pure_ (i := 18) (N := some 57) (v := undef) (a' := ?_) #[true, true, true, true, true, true, true, true, true, true, true, true, true, true, true, true, true, true, true, false, false, false, false, false, false] rfl rfl (any_of HT_.out (by kernel_rfl)) (fun _ _ _ h => h) (Or.inr ⟨by rfl, rfl⟩) ?_ ?_
          rotate_left
          ·simp only [Act.put, sI, sZ, sS, i64_w]
           rfl
          refine pure_ (i := 19) (N := some 58) (v := undef) (a' := ?_) #[true, true, true, true, true, true, true, true, true, true, true, true, true, true, true, true, true, true, true, true, false, false, false, false, false] rfl rfl (any_of HT_.out (by kernel_rfl)) (fun _ _ _ h => h) (Or.inr ⟨by rfl, rfl⟩) ?_ ?_
          rotate_left
          ·simp only [Act.put, sI, sZ, sS, i64_w]
           rfl
          refine pure_ (i := 20) (N := some 59) (v := undef) (a' := ?_) #[true, true, true, true, true, true, true, true, true, true, true, true, true, true, true, true, true, true, true, true, true, false, false, false, false] rfl rfl (any_of HT_.out (by kernel_rfl)) (fun _ _ _ h => h) (Or.inr ⟨by rfl, rfl⟩) ?_ ?_
          rotate_left
          ·simp only [Act.put, sI, sZ, sS, i64_w]
           rfl
          refine pure_ (i := 21) (N := some 60) (v := undef) (a' := ?_) #[true, true, true, true, true, true, true, true, true, true, true, true, true, true, true, true, true, true, true, true, true, true, false, false, false] rfl rfl (any_of HT_.out (by kernel_rfl)) (fun _ _ _ h => h) (Or.inr ⟨by rfl, rfl⟩) ?_ ?_
          rotate_left
          ·simp only [Act.put, sI, sZ, sS, i64_w]
           rfl
          refine pure_ (i := 22) (N := some 61) (v := undef) (a' := ?_) #[true, true, true, true, true, true, true, true, true, true, true, true, true, true, true, true, true, true, true, true, true, true, true, false, false] rfl rfl (any_of HT_.out (by kernel_rfl)) (fun _ _ _ h => h) (Or.inr ⟨by rfl, rfl⟩) ?_ ?_
          rotate_left
          ·simp only [Act.put, sI, sZ, sS, i64_w]
           rfl
          refine pure_ (i := 23) (N := some 62) (v := undef) (a' := ?_) #[true, true, true, true, true, true, true, true, true, true, true, true, true, true, true, true, true, true, true, true, true, true, true, true, false] rfl rfl (any_of HT_.out (by kernel_rfl)) (fun _ _ _ h => h) (Or.inr ⟨by rfl, rfl⟩) ?_ ?_
          rotate_left
          ·simp only [Act.put, sI, sZ, sS, i64_w]
           rfl
          refine pure_ (i := 24) (N := some 63) (v := ?_) (a' := ?_) #[true, true, true, true, true, true, true, true, true, true, true, true, true, true, true, true, true, true, true, true, true, true, true, true, true] rfl rfl (any_of HT_.out (by kernel_rfl)) (fun _ _ _ h => h) (Or.inl ⟨by rfl, ?_⟩) ?_ ?_
          rotate_left
          ·intro w'
           go_simp
           with_reducible rfl
          rotate_left
          ·simp only [Act.put, sI, sZ, sS, i64_w]
           rfl
          refine done_ (done_of HT_.out (by kernel_rfl)) ?_
          try go_wp2
          go_meet
          case rel => exact ⟨_, (true), (by first | rfl | (simp; done) | (simp [*]; done)), H', ⟨by have := HJ4.out; have := HK2.out; first | omega | exact Nat.le_refl _⟩, ⟨by apply_rules [HO_7.out, rN, rD]⟩, ⟨by apply_rules [HB.out, bA, pN, bD]⟩⟩
         ·rw [if_neg c17] at H
          have c17b0 : decide ((rd t531 x9_2) < (rd l0 x9_2)) = false := decide_eq_false c17
          clear c17
          by_cases c19 : x9_2 > 0
          ·rw [if_pos c19] at H
           have c19b0 : decide (0 < x9_2) = true := dT c19
           clear c19
           obtain ⟨ji20, hji20⟩ : ∃ j_ : Int, (wrap64 (x9_2 - 1)) = j_ := ⟨_, rfl⟩
           replace H : (if 0 ≤ (ji20) then (if (ji20) < (t531.length : Int) then (dynamometerlaw7_LoadAdmitKeepsTheLimit.j2 k2 l0 a1 a2 t531 x9_2 (decide ((rd t531 x9_2) < (rd t531 (ji20))))) else (none)) else (none)) = some r := by first | (rw [hji20] at H; exact H) | (simp only [hji20] at H ⊢; exact H)
           have hji20w : (IntKind.i64.wrap (x9_2 - 1)) = ji20 := (i64_w _).trans hji20
           by_cases c21 : 0 ≤ (ji20)
           rotate_left
           ·rw [if_neg c21] at H; cases H
           rw [if_pos c21] at H
           have c21b0 : decide (0 ≤ (ji20)) = true := dT c21
           clear c21
           by_cases c22 : (ji20) < (t531.length : Int)
           rotate_left
           ·rw [if_neg c22] at H; cases H
           rw [if_pos c22] at H
           have c22b0 : decide ((ji20) < (t531.length : Int)) = true := dT c22
           clear c22; have H' := aM H; clear H
           try go_wp2
           have n0_ := aM (rD HO_7.out); have n1_ := aM (bD HB.out); clear HO_7 HB; have HO_7 := n0_; have HB := n1_; clear n0_ n1_
           have p537 : 0 ≤ (x9_2 : Int) := oD (by first | (with_reducible assumption) | assumption)
           have q537 : x9_2 < (t531.length : Int) := oD (by first | (with_reducible assumption) | assumption)
           obtain ⟨ad537, e537, hx537_0⟩ := Kd.at_int (rS HO_7.out).2.2 x9_2 p537 q537
           cases e537
           replace p537 := eq_true p537
           replace q537 := eq_true q537
           have p538 : 0 ≤ (x9_2 : Int) := oD (by first | (with_reducible assumption) | assumption)
           have q538 : x9_2 < (l0.length : Int) := oD (by first | (with_reducible assumption) | assumption)
           obtain ⟨ad538, e538, hx538_0⟩ := Kd.at_int HR0.out x9_2 p538 q538
           have hw538_0 := hx538_0
           cases e538
           replace hx538_0 := (HB.out.cell (wL w _ hx538_0)).trans hx538_0
           replace p538 := eq_true p538
           replace q538 := eq_true q538
           have p539 : 0 ≤ (x9_2 : Int) := oD (by first | (with_reducible assumption) | assumption)
           have q539 : x9_2 < (t531.length : Int) := oD (by first | (with_reducible assumption) | assumption)
           obtain ⟨ad539, e539, hx539_0⟩ := Kd.at_int (rS HO_7.out).2.2 x9_2 p539 q539
           obtain rfl : ad537 = ad539 := (by injection e539)
           replace p539 := eq_true p539
           replace q539 := eq_true q539
           have p540 : 0 ≤ ((ji20) : Int) := oD (by first | (with_reducible assumption) | assumption)
           have q540 : (ji20) < (t531.length : Int) := oD (by first | (with_reducible assumption) | assumption)
           obtain ⟨ad540, e540, hx540_0⟩ := Kd.at_int (rS HO_7.out).2.2 (ji20) p540 q540
           obtain rfl : ad537 = ad540 := (by injection e540)
           replace p540 := eq_true p540
           replace q540 := eq_true q540
           refine start_ (n := 25) (S := fun w' => w'.cell? (ad537.add (x9_2).toNat) = some (.int .i64 (rd t531 x9_2)) ∧ w'.cell? (ad538.add (x9_2).toNat) = some (.int .i64 (rd l0 x9_2)) ∧ w'.cell? (ad537.add (x9_2).toNat) = some (.int .i64 (rd t531 x9_2)) ∧ w'.cell? (ad537.add ((ji20)).toNat) = some (.int .i64 (rd t531 (ji20)))) (ds := []) #[false, false, false, false, false, false, false, false, false, false, false, false, false, false, false, false, false, false, false, false, false, false, false, false, false] (by kernel_rfl) rfl rfl ⟨hx537_0, ((HB.out.cell (wL w _ hw538_0)).trans hw538_0), hx539_0, hx540_0⟩ (fun hHeld => ?_); refine with_tabW dynamometerlaw7_LoadAdmitKeepsTheLimit.tab9 dynamometerlaw7_LoadAdmitKeepsTheLimit.bits9 (fun HT_ HW_ => ?_)
           generalize wr.drew = w23 at HO_7 HB hx537_0 hx538_0 hx539_0 hx540_0 hHeld ⊢
           refine pure_ (i := 0) (N := some 39) (v := ?_) (a' := ?_) #[true, false, false, false, false, false, false, false, false, false, false, false, false, false, false, false, false, false, false, false, false, false, false, false, false] rfl rfl (any_of HT_.out (by kernel_rfl)) (fun _ _ _ h => h) (Or.inl ⟨by rfl, ?_⟩) ?_ ?_
           rotate_left
           ·intro w'
            go_simp
            with_reducible rfl
           rotate_left
           ·simp only [Act.put, sI, sZ, sS, i64_w]
            rfl
           refine pure_ (i := 1) (N := some 40) (v := ?_) (a' := ?_) #[true, true, false, false, false, false, false, false, false, false, false, false, false, false, false, false, false, false, false, false, false, false, false, false, false] rfl rfl (any_of HT_.out (by kernel_rfl)) (fun _ _ _ h => h) (Or.inl ⟨by rfl, ?_⟩) ?_ ?_
           rotate_left
           ·intro w'
            go_simp
            with_reducible rfl
           rotate_left
           ·simp only [Act.put, sI, sZ, sS, i64_w]
            rfl
           refine pure_ (i := 2) (N := some 41) (v := ?_) (a' := ?_) #[true, true, true, false, false, false, false, false, false, false, false, false, false, false, false, false, false, false, false, false, false, false, false, false, false] rfl rfl (any_of HT_.out (by kernel_rfl)) (fun _ _ _ h => h) (Or.inl ⟨by rfl, ?_⟩) ?_ ?_
           rotate_left
           ·intro w'
            go_simp
            with_reducible rfl
           rotate_left
           ·simp only [Act.put, sI, sZ, sS, i64_w]
            rfl
           refine pure_ (i := 4) (N := some 43) (v := ?_) (a' := ?_) #[true, true, true, false, true, false, false, false, false, false, false, false, false, false, false, false, false, false, false, false, false, false, false, false, false] rfl rfl (any_of HT_.out (by kernel_rfl)) (fun _ _ _ h => h) (Or.inl ⟨by rfl, ?_⟩) ?_ ?_
           rotate_left
           ·intro w'
            go_simp
            with_reducible rfl
           rotate_left
           ·simp only [Act.put, sI, sZ, sS, i64_w]
            rfl
           refine pure_ (i := 5) (N := some 44) (v := ?_) (a' := ?_) #[true, true, true, false, true, true, false, false, false, false, false, false, false, false, false, false, false, false, false, false, false, false, false, false, false] rfl rfl (any_of HT_.out (by kernel_rfl)) (fun _ _ _ h => h) (Or.inl ⟨by rfl, ?_⟩) ?_ ?_
           rotate_left
           ·intro w'
            go_simp
            with_reducible rfl
           rotate_left
           ·simp only [Act.put, sI, sZ, sS, i64_w]
            rfl
           refine pure_ (i := 6) (N := some 45) (v := ?_) (a' := ?_) #[true, true, true, false, true, true, true, false, false, false, false, false, false, false, false, false, false, false, false, false, false, false, false, false, false] rfl rfl (any_of HT_.out (by kernel_rfl)) (fun _ _ _ h => h) (Or.inl ⟨by rfl, ?_⟩) ?_ ?_
           rotate_left
           ·intro w'
            go_simp
            with_reducible rfl
           rotate_left
           ·simp only [Act.put, sI, sZ, sS, i64_w]
            rfl
           refine take_ (i := 3) (N := some 42) (v := ?_) (a' := ?_) #[true, true, true, true, true, true, true, false, false, false, false, false, false, false, false, false, false, false, false, false, false, false, false, false, false] rfl rfl (take_ofW HT_.out HW_.out (by kernel_rfl)) (fun _ _ _ h => h) (Or.inl ⟨by rfl, ?_⟩) hHeld ?_ ?_
           rotate_left
           ·rintro w' ⟨s0, s1, s2, s3⟩
            go_simp
            with_reducible rfl
           rotate_left
           ·simp only [Act.put, sI, sZ, sS, i64_w]
            rfl
           refine take_ (i := 7) (N := some 46) (v := ?_) (a' := ?_) #[true, true, true, true, true, true, true, true, false, false, false, false, false, false, false, false, false, false, false, false, false, false, false, false, false] rfl rfl (take_ofW HT_.out HW_.out (by kernel_rfl)) (fun _ _ _ h => h) (Or.inl ⟨by rfl, ?_⟩) hHeld ?_ ?_
           rotate_left
           ·rintro w' ⟨s0, s1, s2, s3⟩
            go_simp
            with_reducible rfl
           rotate_left
           ·simp only [Act.put, sI, sZ, sS, i64_w]
            rfl
           refine pure_ (i := 8) (N := some 47) (v := ?_) (a' := ?_) #[true, true, true, true, true, true, true, true, true, false, false, false, false, false, false, false, false, false, false, false, false, false, false, false, false] rfl rfl (any_of HT_.out (by kernel_rfl)) (fun _ _ _ h => h) (Or.inl ⟨by rfl, ?_⟩) ?_ ?_
           rotate_left
           ·intro w'
            go_simp
            with_reducible rfl
           rotate_left
           ·simp only [Act.put, sI, sZ, sS, i64_w]
            rfl
           refine pure_ (i := 9) (N := some 48) (v := ?_) (a' := ?_) #[true, true, true, true, true, true, true, true, true, true, false, false, false, false, false, false, false, false, false, false, false, false, false, false, false] rfl rfl (any_of HT_.out (by kernel_rfl)) (fun _ _ _ h => h) (Or.inl ⟨by rfl, ?_⟩) ?_ ?_
           rotate_left
           ·intro w'
            go_simp
            with_reducible rfl
           rotate_left
           ·simp only [Act.put, sI, sZ, sS, i64_w]
            rfl
           refine pure_ (i := 10) (N := some 49) (v := ?_) (a' := ?_) #[true, true, true, true, true, true, true, true, true, true, true, false, false, false, false, false, false, false, false, false, false, false, false, false, false] rfl rfl (any_of HT_.out (by kernel_rfl)) (fun _ _ _ h => h) (Or.inl ⟨by rfl, ?_⟩) ?_ ?_
           rotate_left
           ·intro w'
            go_simp
            with_reducible rfl
           rotate_left
           ·simp only [Act.put, sI, sZ, sS, i64_w]
            rfl
           refine pure_ (i := 11) (N := some 50) (v := ?_) (a' := ?_) #[true, true, true, true, true, true, true, true, true, true, true, true, false, false, false, false, false, false, false, false, false, false, false, false, false] rfl rfl (any_of HT_.out (by kernel_rfl)) (fun _ _ _ h => h) (Or.inl ⟨by rfl, ?_⟩) ?_ ?_
           rotate_left
           ·intro w'
            go_simp
            with_reducible rfl
           rotate_left
           ·simp only [Act.put, sI, sZ, sS, i64_w]
            rfl
           refine pure_ (i := 12) (N := some 51) (v := ?_) (a' := ?_) #[true, true, true, true, true, true, true, true, true, true, true, true, true, false, false, false, false, false, false, false, false, false, false, false, false] rfl rfl (any_of HT_.out (by kernel_rfl)) (fun _ _ _ h => h) (Or.inl ⟨by rfl, ?_⟩) ?_ ?_
           rotate_left
           ·intro w'
            go_simp
            with_reducible rfl
           rotate_left
           ·simp only [Act.put, sI, sZ, sS, i64_w]
            rfl
           refine pure_ (i := 13) (N := some 52) (v := ?_) (a' := ?_) #[true, true, true, true, true, true, true, true, true, true, true, true, true, true, false, false, false, false, false, false, false, false, false, false, false] rfl rfl (any_of HT_.out (by kernel_rfl)) (fun _ _ _ h => h) (Or.inl ⟨by rfl, ?_⟩) ?_ ?_
           rotate_left
           ·intro w'
            go_simp
            with_reducible rfl
           rotate_left
           ·simp only [Act.put, sI, sZ, sS, i64_w]
            rfl
           refine pure_ (i := 14) (N := some 53) (v := ?_) (a' := ?_) #[true, true, true, true, true, true, true, true, true, true, true, true, true, true, true, false, false, false, false, false, false, false, false, false, false] rfl rfl (any_of HT_.out (by kernel_rfl)) (fun _ _ _ h => h) (Or.inl ⟨by rfl, ?_⟩) ?_ ?_
           rotate_left
           ·intro w'
            go_simp
            with_reducible rfl
           rotate_left
           ·simp only [Act.put, sI, sZ, sS, i64_w]
            rfl
           refine pure_ (i := 15) (N := some 54) (v := ?_) (a' := ?_) #[true, true, true, true, true, true, true, true, true, true, true, true, true, true, true, true, false, false, false, false, false, false, false, false, false] rfl rfl (any_of HT_.out (by kernel_rfl)) (fun _ _ _ h => h) (Or.inl ⟨by rfl, ?_⟩) ?_ ?_
           rotate_left
           ·intro w'
            go_simp
            with_reducible rfl
           rotate_left
           ·simp only [Act.put, sI, sZ, sS, i64_w]
            rfl
           refine pure_ (i := 17) (N := some 56) (v := ?_) (a' := ?_) #[true, true, true, true, true, true, true, true, true, true, true, true, true, true, true, true, false, true, false, false, false, false, false, false, false] rfl rfl (any_of HT_.out (by kernel_rfl)) (fun _ _ _ h => h) (Or.inl ⟨by rfl, ?_⟩) ?_ ?_
           rotate_left
           ·intro w'
            go_simp
            with_reducible rfl
           rotate_left
           ·simp only [Act.put, sI, sZ, sS, i64_w]
            rfl
           refine pure_ (i := 18) (N := some 57) (v := ?_) (a' := ?_) #[true, true, true, true, true, true, true, true, true, true, true, true, true, true, true, true, false, true, true, false, false, false, false, false, false] rfl rfl (any_of HT_.out (by kernel_rfl)) (fun _ _ _ h => h) (Or.inl ⟨by rfl, ?_⟩) ?_ ?_
           rotate_left
           ·intro w'
            go_simp
            with_reducible rfl
           rotate_left
           ·simp only [Act.put, sI, sZ, sS, i64_w]
            rfl
           refine pure_ (i := 19) (N := some 58) (v := ?_) (a' := ?_) #[true, true, true, true, true, true, true, true, true, true, true, true, true, true, true, true, false, true, true, true, false, false, false, false, false] rfl rfl (any_of HT_.out (by kernel_rfl)) (fun _ _ _ h => h) (Or.inl ⟨by rfl, ?_⟩) ?_ ?_
           rotate_left
           ·intro w'
            go_simp
            with_reducible rfl
           rotate_left
           ·simp only [Act.put, sI, sZ, sS, i64_w]
            rfl
           refine pure_ (i := 20) (N := some 59) (v := ?_) (a' := ?_) #[true, true, true, true, true, true, true, true, true, true, true, true, true, true, true, true, false, true, true, true, true, false, false, false, false] rfl rfl (any_of HT_.out (by kernel_rfl)) (fun _ _ _ h => h) (Or.inl ⟨by rfl, ?_⟩) ?_ ?_
           rotate_left
           ·intro w'
            go_simp
            with_reducible rfl
           rotate_left
           ·simp only [Act.put, sI, sZ, sS, i64_w]
            rfl
           refine take_ (i := 16) (N := some 55) (v := ?_) (a' := ?_) #[true, true, true, true, true, true, true, true, true, true, true, true, true, true, true, true, true, true, true, true, true, false, false, false, false] rfl rfl (take_ofW HT_.out HW_.out (by kernel_rfl)) (fun _ _ _ h => h) (Or.inl ⟨by rfl, ?_⟩) hHeld ?_ ?_
           rotate_left
           ·rintro w' ⟨s0, s1, s2, s3⟩
            go_simp
            with_reducible rfl
           rotate_left
           ·simp only [Act.put, sI, sZ, sS, i64_w]
            rfl
           refine take_ (i := 21) (N := some 60) (v := ?_) (a' := ?_) #[true, true, true, true, true, true, true, true, true, true, true, true, true, true, true, true, true, true, true, true, true, true, false, false, false] rfl rfl (take_ofW HT_.out HW_.out (by kernel_rfl)) (fun _ _ _ h => h) (Or.inl ⟨by rfl, ?_⟩) hHeld ?_ ?_
           rotate_left
           ·rintro w' ⟨s0, s1, s2, s3⟩
            go_simp
            with_reducible rfl
           rotate_left
           ·simp only [Act.put, sI, sZ, sS, i64_w]
            rfl
           refine pure_ (i := 22) (N := some 61) (v := ?_) (a' := ?_) #[true, true, true, true, true, true, true, true, true, true, true, true, true, true, true, true, true, true, true, true, true, true, true, false, false] rfl rfl (any_of HT_.out (by kernel_rfl)) (fun _ _ _ h => h) (Or.inl ⟨by rfl, ?_⟩) ?_ ?_
           rotate_left
           ·intro w'
            go_simp
            with_reducible rfl
           rotate_left
           ·simp only [Act.put, sI, sZ, sS, i64_w]
            rfl
           refine pure_ (i := 23) (N := some 62) (v := ?_) (a' := ?_) #[true, true, true, true, true, true, true, true, true, true, true, true, true, true, true, true, true, true, true, true, true, true, true, true, false] rfl rfl (any_of HT_.out (by kernel_rfl)) (fun _ _ _ h => h) (Or.inl ⟨by rfl, ?_⟩) ?_ ?_
           rotate_left
           ·intro w'
            go_simp
            with_reducible rfl
           rotate_left
           ·simp only [Act.put, sI, sZ, sS, i64_w]
            rfl
           refine pure_ (i := 24) (N := some 63) (v := ?_) (a' := ?_) #[true, true, true, true, true, true, true, true, true, true, true, true, true, true, true, true, true, true, true, true, true, true, true, true, true] rfl rfl (any_of HT_.out (by kernel_rfl)) (fun _ _ _ h => h) (Or.inl ⟨by rfl, ?_⟩) ?_ ?_
           rotate_left
           ·intro w'
            go_simp
            with_reducible rfl
           rotate_left
           ·simp only [Act.put, sI, sZ, sS, i64_w]
            rfl
           refine done_ (done_of HT_.out (by kernel_rfl)) ?_
           try go_wp2
           go_meet
           case rel => exact ⟨_, (decide ((rd t531 x9_2) < (rd t531 (ji20)))), (by first | rfl | (simp; done) | (simp only [← hji20] <;> (first | rfl | simp)) | (simp [*]; done)), (by first | exact H' | (have h_ := H'; simp only [← hji20] at h_; exact h_)), ⟨by have := HJ4.out; have := HK2.out; first | omega | exact Nat.le_refl _⟩, ⟨by apply_rules [HO_7.out, rN, rD]⟩, ⟨by apply_rules [HB.out, bA, pN, bD]⟩⟩
          ·rw [if_neg c19] at H
           have c19b0 : decide (0 < x9_2) = false := decide_eq_false c19
           clear c19; have H' := aM H; clear H
           try go_wp2
           have n0_ := aM (rD HO_7.out); have n1_ := aM (bD HB.out); clear HO_7 HB; have HO_7 := n0_; have HB := n1_; clear n0_ n1_
           have p537 : 0 ≤ (x9_2 : Int) := oD (by first | (with_reducible assumption) | assumption)
           have q537 : x9_2 < (t531.length : Int) := oD (by first | (with_reducible assumption) | assumption)
           obtain ⟨ad537, e537, hx537_0⟩ := Kd.at_int (rS HO_7.out).2.2 x9_2 p537 q537
           cases e537
           replace p537 := eq_true p537
           replace q537 := eq_true q537
           have p538 : 0 ≤ (x9_2 : Int) := oD (by first | (with_reducible assumption) | assumption)
           have q538 : x9_2 < (l0.length : Int) := oD (by first | (with_reducible assumption) | assumption)
           obtain ⟨ad538, e538, hx538_0⟩ := Kd.at_int HR0.out x9_2 p538 q538
           have hw538_0 := hx538_0
           cases e538
           replace hx538_0 := (HB.out.cell (wL w _ hx538_0)).trans hx538_0
           replace p538 := eq_true p538
           replace q538 := eq_true q538
           refine start_ (n := 25) (S := fun w' => w'.cell? (ad537.add (x9_2).toNat) = some (.int .i64 (rd t531 x9_2)) ∧ w'.cell? (ad538.add (x9_2).toNat) = some (.int .i64 (rd l0 x9_2))) (ds := []) #[false, false, false, false, false, false, false, false, false, false, false, false, false, false, false, false, false, false, false, false, false, false, false, false, false] (by kernel_rfl) rfl rfl ⟨hx537_0, ((HB.out.cell (wL w _ hw538_0)).trans hw538_0)⟩ (fun hHeld => ?_); refine with_tabW dynamometerlaw7_LoadAdmitKeepsTheLimit.tab9 dynamometerlaw7_LoadAdmitKeepsTheLimit.bits9 (fun HT_ HW_ => ?_)
           generalize wr.drew = w24 at HO_7 HB hx537_0 hx538_0 hHeld ⊢
           refine pure_ (i := 0) (N := some 39) (v := ?_) (a' := ?_) #[true, false, false, false, false, false, false, false, false, false, false, false, false, false, false, false, false, false, false, false, false, false, false, false, false] rfl rfl (any_of HT_.out (by kernel_rfl)) (fun _ _ _ h => h) (Or.inl ⟨by rfl, ?_⟩) ?_ ?_
           rotate_left
           ·intro w'
            go_simp
            with_reducible rfl
           rotate_left
           ·simp only [Act.put, sI, sZ, sS, i64_w]
            rfl
           refine pure_ (i := 1) (N := some 40) (v := ?_) (a' := ?_) #[true, true, false, false, false, false, false, false, false, false, false, false, false, false, false, false, false, false, false, false, false, false, false, false, false] rfl rfl (any_of HT_.out (by kernel_rfl)) (fun _ _ _ h => h) (Or.inl ⟨by rfl, ?_⟩) ?_ ?_
           rotate_left
           ·intro w'
            go_simp
            with_reducible rfl
           rotate_left
           ·simp only [Act.put, sI, sZ, sS, i64_w]
            rfl
           refine pure_ (i := 2) (N := some 41) (v := ?_) (a' := ?_) #[true, true, true, false, false, false, false, false, false, false, false, false, false, false, false, false, false, false, false, false, false, false, false, false, false] rfl rfl (any_of HT_.out (by kernel_rfl)) (fun _ _ _ h => h) (Or.inl ⟨by rfl, ?_⟩) ?_ ?_
           rotate_left
           ·intro w'
            go_simp
            with_reducible rfl
           rotate_left
           ·simp only [Act.put, sI, sZ, sS, i64_w]
            rfl
           refine pure_ (i := 4) (N := some 43) (v := ?_) (a' := ?_) #[true, true, true, false, true, false, false, false, false, false, false, false, false, false, false, false, false, false, false, false, false, false, false, false, false] rfl rfl (any_of HT_.out (by kernel_rfl)) (fun _ _ _ h => h) (Or.inl ⟨by rfl, ?_⟩) ?_ ?_
           rotate_left
           ·intro w'
            go_simp
            with_reducible rfl
           rotate_left
           ·simp only [Act.put, sI, sZ, sS, i64_w]
            rfl
           refine pure_ (i := 5) (N := some 44) (v := ?_) (a' := ?_) #[true, true, true, false, true, true, false, false, false, false, false, false, false, false, false, false, false, false, false, false, false, false, false, false, false] rfl rfl (any_of HT_.out (by kernel_rfl)) (fun _ _ _ h => h) (Or.inl ⟨by rfl, ?_⟩) ?_ ?_
           rotate_left
           ·intro w'
            go_simp
            with_reducible rfl
           rotate_left
           ·simp only [Act.put, sI, sZ, sS, i64_w]
            rfl
           refine pure_ (i := 6) (N := some 45) (v := ?_) (a' := ?_) #[true, true, true, false, true, true, true, false, false, false, false, false, false, false, false, false, false, false, false, false, false, false, false, false, false] rfl rfl (any_of HT_.out (by kernel_rfl)) (fun _ _ _ h => h) (Or.inl ⟨by rfl, ?_⟩) ?_ ?_
           rotate_left
           ·intro w'
            go_simp
            with_reducible rfl
           rotate_left
           ·simp only [Act.put, sI, sZ, sS, i64_w]
            rfl
           refine take_ (i := 3) (N := some 42) (v := ?_) (a' := ?_) #[true, true, true, true, true, true, true, false, false, false, false, false, false, false, false, false, false, false, false, false, false, false, false, false, false] rfl rfl (take_ofW HT_.out HW_.out (by kernel_rfl)) (fun _ _ _ h => h) (Or.inl ⟨by rfl, ?_⟩) hHeld ?_ ?_
           rotate_left
           ·rintro w' ⟨s0, s1⟩
            go_simp
            with_reducible rfl
           rotate_left
           ·simp only [Act.put, sI, sZ, sS, i64_w]
            rfl
           refine take_ (i := 7) (N := some 46) (v := ?_) (a' := ?_) #[true, true, true, true, true, true, true, true, false, false, false, false, false, false, false, false, false, false, false, false, false, false, false, false, false] rfl rfl (take_ofW HT_.out HW_.out (by kernel_rfl)) (fun _ _ _ h => h) (Or.inl ⟨by rfl, ?_⟩) hHeld ?_ ?_
           rotate_left
           ·rintro w' ⟨s0, s1⟩
            go_simp
            with_reducible rfl
           rotate_left
           ·simp only [Act.put, sI, sZ, sS, i64_w]
            rfl
           refine pure_ (i := 8) (N := some 47) (v := ?_) (a' := ?_) #[true, true, true, true, true, true, true, true, true, false, false, false, false, false, false, false, false, false, false, false, false, false, false, false, false] rfl rfl (any_of HT_.out (by kernel_rfl)) (fun _ _ _ h => h) (Or.inl ⟨by rfl, ?_⟩) ?_ ?_
           rotate_left
           ·intro w'
            go_simp
            with_reducible rfl
           rotate_left
           ·simp only [Act.put, sI, sZ, sS, i64_w]
            rfl
           refine pure_ (i := 9) (N := some 48) (v := ?_) (a' := ?_) #[true, true, true, true, true, true, true, true, true, true, false, false, false, false, false, false, false, false, false, false, false, false, false, false, false] rfl rfl (any_of HT_.out (by kernel_rfl)) (fun _ _ _ h => h) (Or.inl ⟨by rfl, ?_⟩) ?_ ?_
           rotate_left
           ·intro w'
            go_simp
            with_reducible rfl
           rotate_left
           ·simp only [Act.put, sI, sZ, sS, i64_w]
            rfl
           refine pure_ (i := 10) (N := some 49) (v := ?_) (a' := ?_) #[true, true, true, true, true, true, true, true, true, true, true, false, false, false, false, false, false, false, false, false, false, false, false, false, false] rfl rfl (any_of HT_.out (by kernel_rfl)) (fun _ _ _ h => h) (Or.inl ⟨by rfl, ?_⟩) ?_ ?_
           rotate_left
           ·intro w'
            go_simp
            with_reducible rfl
           rotate_left
           ·simp only [Act.put, sI, sZ, sS, i64_w]
            rfl
           refine pure_ (i := 11) (N := some 50) (v := ?_) (a' := ?_) #[true, true, true, true, true, true, true, true, true, true, true, true, false, false, false, false, false, false, false, false, false, false, false, false, false] rfl rfl (any_of HT_.out (by kernel_rfl)) (fun _ _ _ h => h) (Or.inl ⟨by rfl, ?_⟩) ?_ ?_
           rotate_left
           ·intro w'
            go_simp
            with_reducible rfl
           rotate_left
           ·simp only [Act.put, sI, sZ, sS, i64_w]
            rfl
           refine pure_ (i := 12) (N := some 51) (v := ?_) (a' := ?_) #[true, true, true, true, true, true, true, true, true, true, true, true, true, false, false, false, false, false, false, false, false, false, false, false, false] rfl rfl (any_of HT_.out (by kernel_rfl)) (fun _ _ _ h => h) (Or.inl ⟨by rfl, ?_⟩) ?_ ?_
           rotate_left
           ·intro w'
            go_simp
            with_reducible rfl
           rotate_left
           ·simp only [Act.put, sI, sZ, sS, i64_w]
            rfl
           refine pure_ (i := 13) (N := some 52) (v := undef) (a' := ?_) #[true, true, true, true, true, true, true, true, true, true, true, true, true, true, false, false, false, false, false, false, false, false, false, false, false] rfl rfl (any_of HT_.out (by kernel_rfl)) (fun _ _ _ h => h) (Or.inr ⟨by rfl, rfl⟩) ?_ ?_
           rotate_left
           ·simp only [Act.put, sI, sZ, sS, i64_w]
            rfl
           refine pure_ (i := 14) (N := some 53) (v := undef) (a' := ?_) #[true, true, true, true, true, true, true, true, true, true, true, true, true, true, true, false, false, false, false, false, false, false, false, false, false] rfl rfl (any_of HT_.out (by kernel_rfl)) (fun _ _ _ h => h) (Or.inr ⟨by rfl, rfl⟩) ?_ ?_
           rotate_left
           ·simp only [Act.put, sI, sZ, sS, i64_w]
            rfl
           refine pure_ (i := 15) (N := some 54) (v := undef) (a' := ?_) #[true, true, true, true, true, true, true, true, true, true, true, true, true, true, true, true, false, false, false, false, false, false, false, false, false] rfl rfl (any_of HT_.out (by kernel_rfl)) (fun _ _ _ h => h) (Or.inr ⟨by rfl, rfl⟩) ?_ ?_
           rotate_left
           ·simp only [Act.put, sI, sZ, sS, i64_w]
            rfl
           refine pure_ (i := 16) (N := some 55) (v := undef) (a' := ?_) #[true, true, true, true, true, true, true, true, true, true, true, true, true, true, true, true, true, false, false, false, false, false, false, false, false] rfl rfl (any_of HT_.out (by kernel_rfl)) (fun _ _ _ h => h) (Or.inr ⟨by rfl, rfl⟩) ?_ ?_
           rotate_left
           ·simp only [Act.put, sI, sZ, sS, i64_w]
            rfl
           refine pure_ (i := 17) (N := some 56) (v := undef) (a' := ?_) #[true, true, true, true, true, true, true, true, true, true, true, true, true, true, true, true, true, true, false, false, false, false, false, false, false] rfl rfl (any_of HT_.out (by kernel_rfl)) (fun _ _ _ h => h) (Or.inr ⟨by rfl, rfl⟩) ?_ ?_
           rotate_left
           ·simp only [Act.put, sI, sZ, sS, i64_w]
            rfl
           refine pure_ (i := 18) (N := some 57) (v := undef) (a' := ?_) #[true, true, true, true, true, true, true, true, true, true, true, true, true, true, true, true, true, true, true, false, false, false, false, false, false] rfl rfl (any_of HT_.out (by kernel_rfl)) (fun _ _ _ h => h) (Or.inr ⟨by rfl, rfl⟩) ?_ ?_
           rotate_left
           ·simp only [Act.put, sI, sZ, sS, i64_w]
            rfl
           refine pure_ (i := 19) (N := some 58) (v := undef) (a' := ?_) #[true, true, true, true, true, true, true, true, true, true, true, true, true, true, true, true, true, true, true, true, false, false, false, false, false] rfl rfl (any_of HT_.out (by kernel_rfl)) (fun _ _ _ h => h) (Or.inr ⟨by rfl, rfl⟩) ?_ ?_
           rotate_left
           ·simp only [Act.put, sI, sZ, sS, i64_w]
            rfl
           refine pure_ (i := 20) (N := some 59) (v := undef) (a' := ?_) #[true, true, true, true, true, true, true, true, true, true, true, true, true, true, true, true, true, true, true, true, true, false, false, false, false] rfl rfl (any_of HT_.out (by kernel_rfl)) (fun _ _ _ h => h) (Or.inr ⟨by rfl, rfl⟩) ?_ ?_
           rotate_left
           ·simp only [Act.put, sI, sZ, sS, i64_w]
            rfl
           refine pure_ (i := 21) (N := some 60) (v := undef) (a' := ?_) #[true, true, true, true, true, true, true, true, true, true, true, true, true, true, true, true, true, true, true, true, true, true, false, false, false] rfl rfl (any_of HT_.out (by kernel_rfl)) (fun _ _ _ h => h) (Or.inr ⟨by rfl, rfl⟩) ?_ ?_
           rotate_left
           ·simp only [Act.put, sI, sZ, sS, i64_w]
            rfl
           refine pure_ (i := 22) (N := some 61) (v := undef) (a' := ?_) #[true, true, true, true, true, true, true, true, true, true, true, true, true, true, true, true, true, true, true, true, true, true, true, false, false] rfl rfl (any_of HT_.out (by kernel_rfl)) (fun _ _ _ h => h) (Or.inr ⟨by rfl, rfl⟩) ?_ ?_
           rotate_left
           ·simp only [Act.put, sI, sZ, sS, i64_w]
            rfl
           refine pure_ (i := 23) (N := some 62) (v := ?_) (a' := ?_) #[true, true, true, true, true, true, true, true, true, true, true, true, true, true, true, true, true, true, true, true, true, true, true, true, false] rfl rfl (any_of HT_.out (by kernel_rfl)) (fun _ _ _ h => h) (Or.inl ⟨by rfl, ?_⟩) ?_ ?_
           rotate_left
           ·intro w'
            go_simp
            with_reducible rfl
           rotate_left
           ·simp only [Act.put, sI, sZ, sS, i64_w]
            rfl
           refine pure_ (i := 24) (N := some 63) (v := ?_) (a' := ?_) #[true, true, true, true, true, true, true, true, true, true, true, true, true, true, true, true, true, true, true, true, true, true, true, true, true] rfl rfl (any_of HT_.out (by kernel_rfl)) (fun _ _ _ h => h) (Or.inl ⟨by rfl, ?_⟩) ?_ ?_
           rotate_left
           ·intro w'
            go_simp
            with_reducible rfl
           rotate_left
           ·simp only [Act.put, sI, sZ, sS, i64_w]
            rfl
           refine done_ (done_of HT_.out (by kernel_rfl)) ?_
           try go_wp2
           go_meet
           case rel => exact ⟨_, (false), (by first | rfl | (simp; done) | (simp [*]; done)), H', ⟨by have := HJ4.out; have := HK2.out; first | omega | exact Nat.le_refl _⟩, ⟨by apply_rules [HO_7.out, rN, rD]⟩, ⟨by apply_rules [HB.out, bA, pN, bD]⟩⟩
        case rest =>
         clear HC14
         try clear c1
         try clear c2
         try clear p2
         try clear p5
         try clear q5
         try clear hx5
         try clear p6
         try clear c15
         try clear c16
         try clear c17
         try clear c17b0
         try clear c19
         try clear c19b0
         try clear c21
         try clear c21b0
         try clear c22
         try clear c22b0
         try clear hx537_0
         try clear hx538_0
         try clear hx539_0
         try clear hx540_0
         try clear p537
         try clear p538
         try clear p539
         try clear p540
         try clear q537
         try clear q538
         try clear q539
         try clear q540
         obtain ⟨kq, x63_13, rfl, HA, HJ13, HO_7, HB⟩ := hcut
         cases kq with
         | zero => exact absurd HA.out (by simp [dynamometerlaw7_LoadAdmitKeepsTheLimit.j2])
         | succ kj13 =>
          have H := HA.out
          clear HA
          simp only [dynamometerlaw7_LoadAdmitKeepsTheLimit.j2] at H
          by_cases c25 : x63_13 = true
          ·subst c25
           have H1 : (some false) = some r := by rw [if_pos rfl] at H; exact H
           clear H
           have H := H1
           clear H1
           obtain rfl := Option.some.inj H
           go_wp2
           go_ret
           exact ⟨by first | rfl | (simp [errW_none, errW_some] <;> rfl) | (simp [*, errW_none, errW_some] <;> rfl), by apply_rules [HB.out, bA, pN, bD]⟩
          ·replace c25 := Bool.eq_false_iff.mpr c25
           subst c25
           have H1 : (dynamometerlaw7_LoadAdmitKeepsTheLimit.l1 kj13 l0 a1 a2 t531 x9_2 x9_2) = some r := by rw [if_neg (show ¬ (false = true) by decide)] at H; exact H
           clear H
           have H := H1
           clear H1; have H' := aM H; clear H
           go_wp2
           go_loopg [10] kj13 (fun kq v10 w' => ∃ (x10_4 : Int), v10 = .int .i64 x10_4 ∧ Aside0 (dynamometerlaw7_LoadAdmitKeepsTheLimit.l1 kq l0 a1 a2 t531 x9_2 x10_4 = some r) ∧ Aside0 (kq ≤ kj13) ∧ Aside0 (Kd.R (Kd.int .i64) 3 w' w.heap.size (fun _ => True) (.slice Ao12 t531.length co12) t531) ∧ Aside0 (Below w.heap.size w w'))
           case atStart => exact ⟨(x9_2), (by first | rfl | (simp; done) | (simp [*]; done)), H', ⟨Nat.le_refl _⟩, ⟨by apply_rules [HO_7.out, rN, rD]⟩, ⟨by apply_rules [HB.out, bA, pN, bD]⟩⟩
           case round =>
            clear H'
            try clear c1
            try clear c2
            try clear p2
            try clear p5
            try clear q5
            try clear hx5
            try clear p6
            try clear c15
            try clear c16
            try clear c17
            try clear c17b0
            try clear c19
            try clear c19b0
            try clear c21
            try clear c21b0
            try clear c22
            try clear c22b0
            try clear c25
            try clear hx537_0
            try clear hx538_0
            try clear hx539_0
            try clear hx540_0
            try clear p2
            try clear p5
            try clear p537
            try clear p538
            try clear p539
            try clear p540
            try clear p6
            try clear q5
            try clear q537
            try clear q538
            try clear q539
            try clear q540
            obtain ⟨x10_4, rfl, HA, HK4, HO_7, HB⟩ := hrel
            cases gk with
            | zero => exact absurd HA.out (by simp [dynamometerlaw7_LoadAdmitKeepsTheLimit.l1])
            | succ k4 =>
             have H := HA.out
             clear HA
             simp only [dynamometerlaw7_LoadAdmitKeepsTheLimit.l1] at H
             by_cases c26 : x10_4 < (t531.length : Int)
             ·rw [if_pos c26] at H
              have c26b0 : decide (x10_4 < (t531.length : Int)) = true := dT c26
              clear c26
              replace H := oB H
              obtain ⟨t541, A270, H⟩ := H
              replace H : ((dynamometerref0_Of.f k4 1000000000).bind fun t544 => ((dynamometerref0_Mul.f k4 t541 t544).bind fun t547 => ((dynamometerref0_Of.f k4 a2).bind fun t550 => ((dynamometerref0_Of.f k4 1000000000).bind fun t553 => ((dynamometerref0_Mul.f k4 t550 t553).bind fun t556 => ((dynamometerref0_Of.f k4 a1).bind fun t559 => (if 0 ≤ x10_4 then (if 0 ≤ x9_2 then (if x9_2 < (t531.length : Int) then ((dynamometerref0_Of.f k4 (wrap64 ((rd t531 x10_4) - (rd t531 x9_2)))).bind fun t564 => ((dynamometerref0_Mul.f k4 t559 t564).bind fun t567 => ((dynamometerref0_Add.f k4 t556 t567).bind fun t570 => ((dynamometerref0_Cmp.f k4 t547 t570).bind fun t573 => (if t573 > 0 then (some false) else (dynamometerlaw7_LoadAdmitKeepsTheLimit.l1 k4 l0 a1 a2 t531 x9_2 (wrap64 (x10_4 + 1)))))))) else (none)) else (none)) else (none)))))))) = some r := H
              have A27 := aM A270; clear A270
              replace H := oB H
              obtain ⟨t544, A280, H⟩ := H
              replace H : ((dynamometerref0_Mul.f k4 t541 t544).bind fun t547 => ((dynamometerref0_Of.f k4 a2).bind fun t550 => ((dynamometerref0_Of.f k4 1000000000).bind fun t553 => ((dynamometerref0_Mul.f k4 t550 t553).bind fun t556 => ((dynamometerref0_Of.f k4 a1).bind fun t559 => (if 0 ≤ x10_4 then (if 0 ≤ x9_2 then (if x9_2 < (t531.length : Int) then ((dynamometerref0_Of.f k4 (wrap64 ((rd t531 x10_4) - (rd t531 x9_2)))).bind fun t564 => ((dynamometerref0_Mul.f k4 t559 t564).bind fun t567 => ((dynamometerref0_Add.f k4 t556 t567).bind fun t570 => ((dynamometerref0_Cmp.f k4 t547 t570).bind fun t573 => (if t573 > 0 then (some false) else (dynamometerlaw7_LoadAdmitKeepsTheLimit.l1 k4 l0 a1 a2 t531 x9_2 (wrap64 (x10_4 + 1)))))))) else (none)) else (none)) else (none))))))) = some r := H
              have A28 := aM A280; clear A280
              replace H := oB H
              obtain ⟨t547, A290, H⟩ := H
              replace H : ((dynamometerref0_Of.f k4 a2).bind fun t550 => ((dynamometerref0_Of.f k4 1000000000).bind fun t553 => ((dynamometerref0_Mul.f k4 t550 t553).bind fun t556 => ((dynamometerref0_Of.f k4 a1).bind fun t559 => (if 0 ≤ x10_4 then (if 0 ≤ x9_2 then (if x9_2 < (t531.length : Int) then ((dynamometerref0_Of.f k4 (wrap64 ((rd t531 x10_4) - (rd t531 x9_2)))).bind fun t564 => ((dynamometerref0_Mul.f k4 t559 t564).bind fun t567 => ((dynamometerref0_Add.f k4 t556 t567).bind fun t570 => ((dynamometerref0_Cmp.f k4 t547 t570).bind fun t573 => (if t573 > 0 then (some false) else (dynamometerlaw7_LoadAdmitKeepsTheLimit.l1 k4 l0 a1 a2 t531 x9_2 (wrap64 (x10_4 + 1)))))))) else (none)) else (none)) else (none)))))) = some r := H
              have A29 := aM A290; clear A290
              replace H := oB H
              obtain ⟨t550, A300, H⟩ := H
              replace H : ((dynamometerref0_Of.f k4 1000000000).bind fun t553 => ((dynamometerref0_Mul.f k4 t550 t553).bind fun t556 => ((dynamometerref0_Of.f k4 a1).bind fun t559 => (if 0 ≤ x10_4 then (if 0 ≤ x9_2 then (if x9_2 < (t531.length : Int) then ((dynamometerref0_Of.f k4 (wrap64 ((rd t531 x10_4) - (rd t531 x9_2)))).bind fun t564 => ((dynamometerref0_Mul.f k4 t559 t564).bind fun t567 => ((dynamometerref0_Add.f k4 t556 t567).bind fun t570 => ((dynamometerref0_Cmp.f k4 t547 t570).bind fun t573 => (if t573 > 0 then (some false) else (dynamometerlaw7_LoadAdmitKeepsTheLimit.l1 k4 l0 a1 a2 t531 x9_2 (wrap64 (x10_4 + 1)))))))) else (none)) else (none)) else (none))))) = some r := H
              have A30 := aM A300; clear A300
              replace H := oB H
              obtain ⟨t553, A310, H⟩ := H
              replace H : ((dynamometerref0_Mul.f k4 t550 t553).bind fun t556 => ((dynamometerref0_Of.f k4 a1).bind fun t559 => (if 0 ≤ x10_4 then (if 0 ≤ x9_2 then (if x9_2 < (t531.length : Int) then ((dynamometerref0_Of.f k4 (wrap64 ((rd t531 x10_4) - (rd t531 x9_2)))).bind fun t564 => ((dynamometerref0_Mul.f k4 t559 t564).bind fun t567 => ((dynamometerref0_Add.f k4 t556 t567).bind fun t570 => ((dynamometerref0_Cmp.f k4 t547 t570).bind fun t573 => (if t573 > 0 then (some false) else (dynamometerlaw7_LoadAdmitKeepsTheLimit.l1 k4 l0 a1 a2 t531 x9_2 (wrap64 (x10_4 + 1)))))))) else (none)) else (none)) else (none)))) = some r := H
              have A31 := aM A310; clear A310
              replace H := oB H
              obtain ⟨t556, A320, H⟩ := H
              replace H : ((dynamometerref0_Of.f k4 a1).bind fun t559 => (if 0 ≤ x10_4 then (if 0 ≤ x9_2 then (if x9_2 < (t531.length : Int) then ((dynamometerref0_Of.f k4 (wrap64 ((rd t531 x10_4) - (rd t531 x9_2)))).bind fun t564 => ((dynamometerref0_Mul.f k4 t559 t564).bind fun t567 => ((dynamometerref0_Add.f k4 t556 t567).bind fun t570 => ((dynamometerref0_Cmp.f k4 t547 t570).bind fun t573 => (if t573 > 0 then (some false) else (dynamometerlaw7_LoadAdmitKeepsTheLimit.l1 k4 l0 a1 a2 t531 x9_2 (wrap64 (x10_4 + 1)))))))) else (none)) else (none)) else (none))) = some r := H
              have A32 := aM A320; clear A320
              replace H := oB H
              obtain ⟨t559, A330, H⟩ := H
              replace H : (if 0 ≤ x10_4 then (if 0 ≤ x9_2 then (if x9_2 < (t531.length : Int) then ((dynamometerref0_Of.f k4 (wrap64 ((rd t531 x10_4) - (rd t531 x9_2)))).bind fun t564 => ((dynamometerref0_Mul.f k4 t559 t564).bind fun t567 => ((dynamometerref0_Add.f k4 t556 t567).bind fun t570 => ((dynamometerref0_Cmp.f k4 t547 t570).bind fun t573 => (if t573 > 0 then (some false) else (dynamometerlaw7_LoadAdmitKeepsTheLimit.l1 k4 l0 a1 a2 t531 x9_2 (wrap64 (x10_4 + 1)))))))) else (none)) else (none)) else (none)) = some r := H
              have A33 := aM A330; clear A330
              by_cases c34 : 0 ≤ x10_4
              rotate_left
              ·rw [if_neg c34] at H; cases H
              rw [if_pos c34] at H
              have c34b0 : decide (0 ≤ x10_4) = true := dT c34
              clear c34
              by_cases c35 : 0 ≤ x9_2
              rotate_left
              ·rw [if_neg c35] at H; cases H
              rw [if_pos c35] at H
              have c35b0 : decide (0 ≤ x9_2) = true := dT c35
              clear c35
              by_cases c36 : x9_2 < (t531.length : Int)
              rotate_left
              ·rw [if_neg c36] at H; cases H
              rw [if_pos c36] at H
              have c36b0 : decide (x9_2 < (t531.length : Int)) = true := dT c36
              clear c36
              replace H := oB H
              obtain ⟨t564, A370, H⟩ := H
              replace H : ((dynamometerref0_Mul.f k4 t559 t564).bind fun t567 => ((dynamometerref0_Add.f k4 t556 t567).bind fun t570 => ((dynamometerref0_Cmp.f k4 t547 t570).bind fun t573 => (if t573 > 0 then (some false) else (dynamometerlaw7_LoadAdmitKeepsTheLimit.l1 k4 l0 a1 a2 t531 x9_2 (wrap64 (x10_4 + 1))))))) = some r := H
              have A37 := aM A370; clear A370
              replace H := oB H
              obtain ⟨t567, A380, H⟩ := H
              replace H : ((dynamometerref0_Add.f k4 t556 t567).bind fun t570 => ((dynamometerref0_Cmp.f k4 t547 t570).bind fun t573 => (if t573 > 0 then (some false) else (dynamometerlaw7_LoadAdmitKeepsTheLimit.l1 k4 l0 a1 a2 t531 x9_2 (wrap64 (x10_4 + 1)))))) = some r := H
              have A38 := aM A380; clear A380
              replace H := oB H
              obtain ⟨t570, A390, H⟩ := H
              replace H : ((dynamometerref0_Cmp.f k4 t547 t570).bind fun t573 => (if t573 > 0 then (some false) else (dynamometerlaw7_LoadAdmitKeepsTheLimit.l1 k4 l0 a1 a2 t531 x9_2 (wrap64 (x10_4 + 1))))) = some r := H
              have A39 := aM A390; clear A390
              replace H := oB H
              obtain ⟨t573, A400, H⟩ := H
              replace H : (if t573 > 0 then (some false) else (dynamometerlaw7_LoadAdmitKeepsTheLimit.l1 k4 l0 a1 a2 t531 x9_2 (wrap64 (x10_4 + 1)))) = some r := H
              have A40 := aM A400; clear A400
              by_cases c41 : t573 > 0
              ·rw [if_pos c41] at H
               have c41b0 : decide (0 < t573) = true := dT c41
               clear c41
               obtain rfl := Option.some.inj H
               try go_wp2_with (first | ((with_reducible refine gC (f := 7) rfl ?_); refine gL (some 75) rfl rfl Try.func7 (by kernel_rfl) rfl #[.int .i64 (wrap64 ((wrap64 (x10_4 - x9_2)) + 1))] rfl (by (try simp only [mA, mC, mN]); first | done | rfl | (simp only [lD, lT]; rfl)) ?_; (with_reducible refine (dynamometerref0_Of.calls k4 (wrap64 ((wrap64 (x10_4 - x9_2)) + 1)) t541 _ A27.out).mono ?_); rintro e w42 ⟨v542, rfl, ho0, hb⟩; refine ⟨_, rfl, ?_⟩; have n0_ := aM (rE (by apply_rules [HO_7.out, rN, rD]) (rB ho0) hb); have n1_ := aM (Kd.R_lower (rW ho0 (rL (by apply_rules [HO_7.out, rN, rD]))) (bZ (by apply_rules [HB.out, bA, pN, bD]))); have n2_ := aM (bS (by apply_rules [HB.out, bA, pN, bD]) hb); clear HO_7 HB; have HO_7 := n0_; have HO543 := n1_; have HB := n2_; clear n0_ n1_ n2_; (try clear hb); (try clear hb2); (try clear hk); (try clear hi); (try clear ho0)) | ((with_reducible refine gC (f := 7) rfl ?_); refine gL (some 76) rfl rfl Try.func7 (by kernel_rfl) rfl #[.int .i64 1000000000] rfl (by (try simp only [mA, mC, mN]); first | done | rfl | (simp only [lD, lT]; rfl)) ?_; (with_reducible refine (dynamometerref0_Of.calls k4 1000000000 t544 _ A28.out).mono ?_); rintro e w43 ⟨v545, rfl, ho0, hb⟩; refine ⟨_, rfl, ?_⟩; have n0_ := aM (rE (by apply_rules [HO_7.out, rN, rD]) (rB ho0) hb); have n1_ := aM (rE (by apply_rules [HO543.out, rN, rD]) (rB ho0) hb); have n2_ := aM (Kd.R_lower (rW (rW ho0 (rL (by apply_rules [HO_7.out, rN, rD]))) (rL (by apply_rules [HO543.out, rN, rD]))) (bZ (by apply_rules [HB.out, bA, pN, bD]))); have n3_ := aM (bS (by apply_rules [HB.out, bA, pN, bD]) hb); clear HO_7 HO543 HB; have HO_7 := n0_; have HO543 := n1_; have HO546 := n2_; have HB := n3_; clear n0_ n1_ n2_ n3_; (try clear hb); (try clear hb2); (try clear hk); (try clear hi); (try clear ho0); obtain ⟨Ao44, co44, eo44⟩ := Kd.R_slice HO543.out; subst eo44; obtain ⟨Ao45, co45, eo45⟩ := Kd.R_slice HO546.out; subst eo45) | ((with_reducible refine gC (f := 6) rfl ?_); refine gL (some 77) rfl rfl Try.func6 (by kernel_rfl) rfl #[.slice Ao44 t541.length co44, .slice Ao45 t544.length co45] rfl (by (try simp only [mA, mC, mN]); first | done | rfl | (simp only [lD, lT]; rfl)) ?_; (with_reducible refine (dynamometerref0_Mul.calls k4 _ _ t541 _ _ t544 t547 _ ?side1 ?side2 ?side3 ?side4 A29.out).mono ?_); (case side1 => repeat (first | exact (rS HO543.out).2.2 | (with_reducible refine cA ?_ _) | (with_reducible refine cN ?_ _) | (with_reducible refine cD ?_))); (case side2 => exact (rS HO543.out).2.1); (case side3 => repeat (first | exact (rS HO546.out).2.2 | (with_reducible refine cA ?_ _) | (with_reducible refine cN ?_ _) | (with_reducible refine cD ?_))); (case side4 => exact (rS HO546.out).2.1); rintro e w46 ⟨v548, rfl, ho0, hb⟩; refine ⟨_, rfl, ?_⟩; have n0_ := aM (rO (by apply_rules [HO_7.out, rN, rD]) hb); have n1_ := aM (rO (by apply_rules [HO543.out, rN, rD]) hb); have n2_ := aM (rO (by apply_rules [HO546.out, rN, rD]) hb); have n3_ := aM (Kd.V_lower (Kd.V_mono (ok' := fun k_ => some k_ ≠ (.slice Ao12 t531.length co12 : Value).ownBlock ∧ some k_ ≠ (.slice Ao44 t541.length co44 : Value).ownBlock ∧ some k_ ≠ (.slice Ao45 t544.length co45 : Value).ownBlock) ho0 (fun k_ hk_ => ⟨(Kd.fresh' (rL (by apply_rules [HO_7.out, rN, rD])) k_ hk_), (Kd.fresh' (rL (by apply_rules [HO543.out, rN, rD])) k_ hk_), (Kd.fresh' (rL (by apply_rules [HO546.out, rN, rD])) k_ hk_)⟩)) (bZ (by apply_rules [HB.out, bA, pN, bD]))); have n4_ := aM (bS (by apply_rules [HB.out, bA, pN, bD]) hb); clear HO_7 HO543 HO546 HB; have HO_7 := n0_; have HO543 := n1_; have HO546 := n2_; have HO549 := n3_; have HB := n4_; clear n0_ n1_ n2_ n3_ n4_; (try clear hb); (try clear hb2); (try clear hk); (try clear hi); (try clear ho0)))
               have n0_ := aM (rD HO_7.out); have n1_ := aM (rD HO543.out); have n2_ := aM (rD HO546.out); have n3_ := aM (Kd.V_drew HO549.out); have n4_ := aM (bD HB.out); clear HO_7 HO543 HO546 HO549 HB; have HO_7 := n0_; have HO543 := n1_; have HO546 := n2_; have HO549 := n3_; have HB := n4_; clear n0_ n1_ n2_ n3_ n4_
               have p562 : 0 ≤ (x10_4 : Int) := oD (by first | (with_reducible assumption) | assumption)
               have q562 : x10_4 < (t531.length : Int) := oD (by first | (with_reducible assumption) | assumption)
               obtain ⟨ad562, e562, hx562_0⟩ := Kd.at_int (rS HO_7.out).2.2 x10_4 p562 q562
               cases e562
               replace p562 := eq_true p562
               replace q562 := eq_true q562
               have p563 : 0 ≤ (x9_2 : Int) := oD (by first | (with_reducible assumption) | assumption)
               have q563 : x9_2 < (t531.length : Int) := oD (by first | (with_reducible assumption) | assumption)
               obtain ⟨ad563, e563, hx563_0⟩ := Kd.at_int (rS HO_7.out).2.2 x9_2 p563 q563
               obtain rfl : ad562 = ad563 := (by injection e563)
               replace p563 := eq_true p563
               replace q563 := eq_true q563
               refine start_ (n := 19) (S := fun w' => w'.cell? (ad562.add (x10_4).toNat) = some (.int .i64 (rd t531 x10_4)) ∧ w'.cell? (ad562.add (x9_2).toNat) = some (.int .i64 (rd t531 x9_2))) (ds := []) #[false, false, false, false, false, false, false, false, false, false, false, false, false, false, false, false, false, false, false] (by kernel_rfl) rfl rfl ⟨hx562_0, hx563_0⟩ (fun hHeld => ?_); refine with_tabW dynamometerlaw7_LoadAdmitKeepsTheLimit.tab15 dynamometerlaw7_LoadAdmitKeepsTheLimit.bits15 (fun HT_ HW_ => ?_)
               generalize w46.drew = w47 at HO_7 HO543 HO546 HO549 HB hx562_0 hx563_0 hHeld ⊢
               refine pure_ (i := 0) (N := some 78) (v := ?_) (a' := ?_) #[true, false, false, false, false, false, false, false, false, false, false, false, false, false, false, false, false, false, false] rfl rfl (any_of HT_.out (by kernel_rfl)) (fun _ _ _ h => h) (Or.inl ⟨by rfl, ?_⟩) ?_ ?_
               rotate_left
               ·intro w'
                go_simp
                with_reducible rfl
               rotate_left
               ·simp only [Act.put, sI, sZ, sS, i64_w]
                rfl
               refine pure_ (i := 4) (N := some 82) (v := ?_) (a' := ?_) #[true, false, false, false, true, false, false, false, false, false, false, false, false, false, false, false, false, false, false] rfl rfl (any_of HT_.out (by kernel_rfl)) (fun _ _ _ h => h) (Or.inl ⟨by rfl, ?_⟩) ?_ ?_
               rotate_left
               ·intro w'
                go_simp
                with_reducible rfl
               rotate_left
               ·simp only [Act.put, sI, sZ, sS, i64_w]
                rfl
               refine pure_ (i := 6) (N := some 84) (v := ?_) (a' := ?_) #[true, false, false, false, true, false, true, false, false, false, false, false, false, false, false, false, false, false, false] rfl rfl (any_of HT_.out (by kernel_rfl)) (fun _ _ _ h => h) (Or.inl ⟨by rfl, ?_⟩) ?_ ?_
               rotate_left
               ·intro w'
                go_simp
                with_reducible rfl
               rotate_left
               ·simp only [Act.put, sI, sZ, sS, i64_w]
                rfl
               refine pure_ (i := 7) (N := some 85) (v := ?_) (a' := ?_) #[true, false, false, false, true, false, true, true, false, false, false, false, false, false, false, false, false, false, false] rfl rfl (any_of HT_.out (by kernel_rfl)) (fun _ _ _ h => h) (Or.inl ⟨by rfl, ?_⟩) ?_ ?_
               rotate_left
               ·intro w'
                go_simp
                with_reducible rfl
               rotate_left
               ·simp only [Act.put, sI, sZ, sS, i64_w]
                rfl
               refine pure_ (i := 8) (N := some 86) (v := ?_) (a' := ?_) #[true, false, false, false, true, false, true, true, true, false, false, false, false, false, false, false, false, false, false] rfl rfl (any_of HT_.out (by kernel_rfl)) (fun _ _ _ h => h) (Or.inl ⟨by rfl, ?_⟩) ?_ ?_
               rotate_left
               ·intro w'
                go_simp
                with_reducible rfl
               rotate_left
               ·simp only [Act.put, sI, sZ, sS, i64_w]
                rfl
               refine pure_ (i := 10) (N := some 88) (v := ?_) (a' := ?_) #[true, false, false, false, true, false, true, true, true, false, true, false, false, false, false, false, false, false, false] rfl rfl (any_of HT_.out (by kernel_rfl)) (fun _ _ _ h => h) (Or.inl ⟨by rfl, ?_⟩) ?_ ?_
               rotate_left
               ·intro w'
                go_simp
                with_reducible rfl
               rotate_left
               ·simp only [Act.put, sI, sZ, sS, i64_w]
                rfl
               refine pure_ (i := 11) (N := some 89) (v := ?_) (a' := ?_) #[true, false, false, false, true, false, true, true, true, false, true, true, false, false, false, false, false, false, false] rfl rfl (any_of HT_.out (by kernel_rfl)) (fun _ _ _ h => h) (Or.inl ⟨by rfl, ?_⟩) ?_ ?_
               rotate_left
               ·intro w'
                go_simp
                with_reducible rfl
               rotate_left
               ·simp only [Act.put, sI, sZ, sS, i64_w]
                rfl
               refine pure_ (i := 12) (N := some 90) (v := ?_) (a' := ?_) #[true, false, false, false, true, false, true, true, true, false, true, true, true, false, false, false, false, false, false] rfl rfl (any_of HT_.out (by kernel_rfl)) (fun _ _ _ h => h) (Or.inl ⟨by rfl, ?_⟩) ?_ ?_
               rotate_left
               ·intro w'
                go_simp
                with_reducible rfl
               rotate_left
               ·simp only [Act.put, sI, sZ, sS, i64_w]
                rfl
               refine take_ (i := 9) (N := some 87) (v := ?_) (a' := ?_) #[true, false, false, false, true, false, true, true, true, true, true, true, true, false, false, false, false, false, false] rfl rfl (take_ofW HT_.out HW_.out (by kernel_rfl)) (fun _ _ _ h => h) (Or.inl ⟨by rfl, ?_⟩) hHeld ?_ ?_
               rotate_left
               ·rintro w' ⟨s0, s1⟩
                go_simp
                with_reducible rfl
               rotate_left
               ·simp only [Act.put, sI, sZ, sS, i64_w]
                rfl
               refine take_ (i := 13) (N := some 91) (v := ?_) (a' := ?_) #[true, false, false, false, true, false, true, true, true, true, true, true, true, true, false, false, false, false, false] rfl rfl (take_ofW HT_.out HW_.out (by kernel_rfl)) (fun _ _ _ h => h) (Or.inl ⟨by rfl, ?_⟩) hHeld ?_ ?_
               rotate_left
               ·rintro w' ⟨s0, s1⟩
                go_simp
                with_reducible rfl
               rotate_left
               ·simp only [Act.put, sI, sZ, sS, i64_w]
                rfl
               refine pure_ (i := 14) (N := some 92) (v := ?_) (a' := ?_) #[true, false, false, false, true, false, true, true, true, true, true, true, true, true, true, false, false, false, false] rfl rfl (any_of HT_.out (by kernel_rfl)) (fun _ _ _ h => h) (Or.inl ⟨by rfl, ?_⟩) ?_ ?_
               rotate_left
               ·intro w'
                go_simp
                with_reducible rfl
               rotate_left
               ·simp only [Act.put, sI, sZ, sS, i64_w]
                rfl
               refine one_ (i := 1) (N := some 79) #[true, true, false, false, true, false, true, true, true, true, true, true, true, true, true, false, false, false, false] rfl rfl (one_of HT_.out (by kernel_rfl)) (by decide) (fun K hK => ?_)
               refine goes_ Try.func7 (by kernel_rfl) rfl #[.int .i64 a2] (by rfl) rfl rfl (by (try simp only [mA, mC, mN]); first | done | rfl | (simp only [lD, lT]; rfl)) ?_
               with_reducible refine (dynamometerref0_Of.calls k4 a2 t550 _ A30.out).mono ?_
               rintro e w48 ⟨v551, rfl, ho0, hb⟩
               have HS0_ := (hb.cell (wL _ _ (hHeld.1))).trans (hHeld.1)
               have HS1_ := (hb.cell (wL _ _ (hHeld.2))).trans (hHeld.2)
               refine ⟨_, rfl, ?_⟩
               have n0_ := aM (rE (by apply_rules [HO_7.out, rN, rD]) (rB ho0) hb); have n1_ := aM (rE (by apply_rules [HO543.out, rN, rD]) (rB ho0) hb); have n2_ := aM (rE (by apply_rules [HO546.out, rN, rD]) (rB ho0) hb); have n3_ := aM (Kd.V_elder' (by (with_reducible repeat (first | apply Kd.V_alloc | apply Kd.V_drewN | apply Kd.V_drew)); exact HO549.out) (rB ho0) hb); have n4_ := aM (Kd.R_lower (rW (rW (rW ho0 (rL (by apply_rules [HO_7.out, rN, rD]))) (rL (by apply_rules [HO543.out, rN, rD]))) (rL (by apply_rules [HO546.out, rN, rD]))) (bZ (by apply_rules [HB.out, bA, pN, bD]))); have n5_ := aM (bS (by apply_rules [HB.out, bA, pN, bD]) hb); clear HO_7 HO543 HO546 HO549 HB; have HO_7 := n0_; have HO543 := n1_; have HO546 := n2_; have HO549 := n3_; have HO552 := n4_; have HB := n5_; clear n0_ n1_ n2_ n3_ n4_ n5_
               (try clear hb)
               (try clear hb2)
               (try clear hk)
               (try clear hi)
               (try clear ho0)
               refine hK.out _ _ ⟨HS0_, HS1_⟩ (fun hHeld => ?_)
               clear hK K
               refine norm_ (a' := ?_) ?_ ?_
               rotate_left
               ·show Act.put _ (some 79) _ = _
                simp only [Act.put, sI, sZ, sS, i64_w]
                rfl
               refine one_ (i := 2) (N := some 80) #[true, true, true, false, true, false, true, true, true, true, true, true, true, true, true, false, false, false, false] rfl rfl (one_of HT_.out (by kernel_rfl)) (by decide) (fun K hK => ?_)
               refine goes_ Try.func7 (by kernel_rfl) rfl #[.int .i64 1000000000] (by rfl) rfl rfl (by (try simp only [mA, mC, mN]); first | done | rfl | (simp only [lD, lT]; rfl)) ?_
               with_reducible refine (dynamometerref0_Of.calls k4 1000000000 t553 _ A31.out).mono ?_
               rintro e w49 ⟨v554, rfl, ho0, hb⟩
               have HS0_ := (hb.cell (wL _ _ (hHeld.1))).trans (hHeld.1)
               have HS1_ := (hb.cell (wL _ _ (hHeld.2))).trans (hHeld.2)
               refine ⟨_, rfl, ?_⟩
               have n0_ := aM (rE (by apply_rules [HO_7.out, rN, rD]) (rB ho0) hb); have n1_ := aM (rE (by apply_rules [HO543.out, rN, rD]) (rB ho0) hb); have n2_ := aM (rE (by apply_rules [HO546.out, rN, rD]) (rB ho0) hb); have n3_ := aM (Kd.V_elder' (by (with_reducible repeat (first | apply Kd.V_alloc | apply Kd.V_drewN | apply Kd.V_drew)); exact HO549.out) (rB ho0) hb); have n4_ := aM (rE (by apply_rules [HO552.out, rN, rD]) (rB ho0) hb); have n5_ := aM (Kd.R_lower (rW (rW (rW (rW ho0 (rL (by apply_rules [HO_7.out, rN, rD]))) (rL (by apply_rules [HO543.out, rN, rD]))) (rL (by apply_rules [HO546.out, rN, rD]))) (rL (by apply_rules [HO552.out, rN, rD]))) (bZ (by apply_rules [HB.out, bA, pN, bD]))); have n6_ := aM (bS (by apply_rules [HB.out, bA, pN, bD]) hb); clear HO_7 HO543 HO546 HO549 HO552 HB; have HO_7 := n0_; have HO543 := n1_; have HO546 := n2_; have HO549 := n3_; have HO552 := n4_; have HO555 := n5_; have HB := n6_; clear n0_ n1_ n2_ n3_ n4_ n5_ n6_
               (try clear hb)
               (try clear hb2)
               (try clear hk)
               (try clear hi)
               (try clear ho0)
               obtain ⟨Ao50, co50, eo50⟩ := Kd.R_slice HO552.out
               (first | subst eo50 | (injection eo50 with f1_ f2_ f3_; have f4_ := f1_.symm; have f5_ := f3_.symm; clear f1_ f2_ f3_; subst f4_; subst f5_))
               obtain ⟨Ao51, co51, eo51⟩ := Kd.R_slice HO555.out
               (first | subst eo51 | (injection eo51 with f1_ f2_ f3_; have f4_ := f1_.symm; have f5_ := f3_.symm; clear f1_ f2_ f3_; subst f4_; subst f5_))
               refine hK.out _ _ ⟨HS0_, HS1_⟩ (fun hHeld => ?_)
               clear hK K
               refine norm_ (a' := ?_) ?_ ?_
               rotate_left
               ·show Act.put _ (some 80) _ = _
                simp only [Act.put, sI, sZ, sS, i64_w]
                rfl
               refine one_ (i := 3) (N := some 81) #[true, true, true, true, true, false, true, true, true, true, true, true, true, true, true, false, false, false, false] rfl rfl (one_of HT_.out (by kernel_rfl)) (by decide) (fun K hK => ?_)
               refine goes_ Try.func6 (by kernel_rfl) rfl #[.slice Ao50 t550.length co50, .slice Ao51 t553.length co51] (by rfl) rfl rfl (by (try simp only [mA, mC, mN]); first | done | rfl | (simp only [lD, lT]; rfl)) ?_
               with_reducible refine (dynamometerref0_Mul.calls k4 _ _ t550 _ _ t553 t556 _ ?side1 ?side2 ?side3 ?side4 A32.out).mono ?_
               (case side1 => repeat (first | exact (rS HO552.out).2.2 | (with_reducible refine cA ?_ _) | (with_reducible refine cN ?_ _) | (with_reducible refine cD ?_)))
               (case side2 => exact (rS HO552.out).2.1)
               (case side3 => repeat (first | exact (rS HO555.out).2.2 | (with_reducible refine cA ?_ _) | (with_reducible refine cN ?_ _) | (with_reducible refine cD ?_)))
               (case side4 => exact (rS HO555.out).2.1)
               rintro e w52 ⟨v557, rfl, ho0, hb⟩
               have HS0_ := (hb.cell (wL _ _ (hHeld.1))).trans (hHeld.1)
               have HS1_ := (hb.cell (wL _ _ (hHeld.2))).trans (hHeld.2)
               refine ⟨_, rfl, ?_⟩
               have n0_ := aM (rO (by apply_rules [HO_7.out, rN, rD]) hb); have n1_ := aM (rO (by apply_rules [HO543.out, rN, rD]) hb); have n2_ := aM (rO (by apply_rules [HO546.out, rN, rD]) hb); have n3_ := aM (Kd.V_below (by (with_reducible repeat (first | apply Kd.V_alloc | apply Kd.V_drewN | apply Kd.V_drew)); exact HO549.out) hb); have n4_ := aM (rO (by apply_rules [HO552.out, rN, rD]) hb); have n5_ := aM (rO (by apply_rules [HO555.out, rN, rD]) hb); have n6_ := aM (Kd.V_lower (Kd.V_mono (ok' := fun k_ => some k_ ≠ (.slice (some ad562) t531.length co12 : Value).ownBlock ∧ some k_ ≠ (.slice Ao44 t541.length co44 : Value).ownBlock ∧ some k_ ≠ (.slice Ao45 t544.length co45 : Value).ownBlock ∧ some k_ ≠ (.slice Ao50 t550.length co50 : Value).ownBlock ∧ some k_ ≠ (.slice Ao51 t553.length co51 : Value).ownBlock) ho0 (fun k_ hk_ => ⟨(Kd.fresh' (rL (by apply_rules [HO_7.out, rN, rD])) k_ hk_), (Kd.fresh' (rL (by apply_rules [HO543.out, rN, rD])) k_ hk_), (Kd.fresh' (rL (by apply_rules [HO546.out, rN, rD])) k_ hk_), (Kd.fresh' (rL (by apply_rules [HO552.out, rN, rD])) k_ hk_), (Kd.fresh' (rL (by apply_rules [HO555.out, rN, rD])) k_ hk_)⟩)) (bZ (by apply_rules [HB.out, bA, pN, bD]))); have n7_ := aM (bS (by apply_rules [HB.out, bA, pN, bD]) hb); clear HO_7 HO543 HO546 HO549 HO552 HO555 HB; have HO_7 := n0_; have HO543 := n1_; have HO546 := n2_; have HO549 := n3_; have HO552 := n4_; have HO555 := n5_; have HO558 := n6_; have HB := n7_; clear n0_ n1_ n2_ n3_ n4_ n5_ n6_ n7_
               (try clear hb)
               (try clear hb2)
               (try clear hk)
               (try clear hi)
               (try clear ho0)
               refine hK.out _ _ ⟨HS0_, HS1_⟩ (fun hHeld => ?_)
               clear hK K
               refine norm_ (a' := ?_) ?_ ?_
               rotate_left
               ·show Act.put _ (some 81) _ = _
                simp only [Act.put, sI, sZ, sS, i64_w]
                rfl
               refine one_ (i := 5) (N := some 83) #[true, true, true, true, true, true, true, true, true, true, true, true, true, true, true, false, false, false, false] rfl rfl (one_of HT_.out (by kernel_rfl)) (by decide) (fun K hK => ?_)
               refine goes_ Try.func7 (by kernel_rfl) rfl #[.int .i64 a1] (by rfl) rfl rfl (by (try simp only [mA, mC, mN]); first | done | rfl | (simp only [lD, lT]; rfl)) ?_
               with_reducible refine (dynamometerref0_Of.calls k4 a1 t559 _ A33.out).mono ?_
               rintro e w53 ⟨v560, rfl, ho0, hb⟩
               have HS0_ := (hb.cell (wL _ _ (hHeld.1))).trans (hHeld.1)
               have HS1_ := (hb.cell (wL _ _ (hHeld.2))).trans (hHeld.2)
               refine ⟨_, rfl, ?_⟩
               have n0_ := aM (rE (by apply_rules [HO_7.out, rN, rD]) (rB ho0) hb); have n1_ := aM (rE (by apply_rules [HO543.out, rN, rD]) (rB ho0) hb); have n2_ := aM (rE (by apply_rules [HO546.out, rN, rD]) (rB ho0) hb); have n3_ := aM (Kd.V_elder' (by (with_reducible repeat (first | apply Kd.V_alloc | apply Kd.V_drewN | apply Kd.V_drew)); exact HO549.out) (rB ho0) hb); have n4_ := aM (rE (by apply_rules [HO552.out, rN, rD]) (rB ho0) hb); have n5_ := aM (rE (by apply_rules [HO555.out, rN, rD]) (rB ho0) hb); have n6_ := aM (Kd.V_elder' (by (with_reducible repeat (first | apply Kd.V_alloc | apply Kd.V_drewN | apply Kd.V_drew)); exact HO558.out) (rB ho0) hb); have n7_ := aM (Kd.R_lower (rW (rW (rW (rW (rW ho0 (rL (by apply_rules [HO_7.out, rN, rD]))) (rL (by apply_rules [HO543.out, rN, rD]))) (rL (by apply_rules [HO546.out, rN, rD]))) (rL (by apply_rules [HO552.out, rN, rD]))) (rL (by apply_rules [HO555.out, rN, rD]))) (bZ (by apply_rules [HB.out, bA, pN, bD]))); have n8_ := aM (bS (by apply_rules [HB.out, bA, pN, bD]) hb); clear HO_7 HO543 HO546 HO549 HO552 HO555 HO558 HB; have HO_7 := n0_; have HO543 := n1_; have HO546 := n2_; have HO549 := n3_; have HO552 := n4_; have HO555 := n5_; have HO558 := n6_; have HO561 := n7_; have HB := n8_; clear n0_ n1_ n2_ n3_ n4_ n5_ n6_ n7_ n8_
               (try clear hb)
               (try clear hb2)
               (try clear hk)
               (try clear hi)
               (try clear ho0)
               refine hK.out _ _ ⟨HS0_, HS1_⟩ (fun hHeld => ?_)
               clear hK K
               refine norm_ (a' := ?_) ?_ ?_
               rotate_left
               ·show Act.put _ (some 83) _ = _
                simp only [Act.put, sI, sZ, sS, i64_w]
                rfl
               refine one_ (i := 15) (N := some 93) #[true, true, true, true, true, true, true, true, true, true, true, true, true, true, true, true, false, false, false] rfl rfl (one_of HT_.out (by kernel_rfl)) (by decide) (fun K hK => ?_)
               refine goes_ Try.func7 (by kernel_rfl) rfl #[.int .i64 (wrap64 ((rd t531 x10_4) - (rd t531 x9_2)))] (by rfl) rfl rfl (by (try simp only [mA, mC, mN]); first | done | rfl | (simp only [lD, lT]; rfl)) ?_
               with_reducible refine (dynamometerref0_Of.calls k4 (wrap64 ((rd t531 x10_4) - (rd t531 x9_2))) t564 _ A37.out).mono ?_
               rintro e w54 ⟨v565, rfl, ho0, hb⟩
               have HS0_ := (hb.cell (wL _ _ (hHeld.1))).trans (hHeld.1)
               have HS1_ := (hb.cell (wL _ _ (hHeld.2))).trans (hHeld.2)
               refine ⟨_, rfl, ?_⟩
               have n0_ := aM (rE (by apply_rules [HO_7.out, rN, rD]) (rB ho0) hb); have n1_ := aM (rE (by apply_rules [HO543.out, rN, rD]) (rB ho0) hb); have n2_ := aM (rE (by apply_rules [HO546.out, rN, rD]) (rB ho0) hb); have n3_ := aM (Kd.V_elder' (by (with_reducible repeat (first | apply Kd.V_alloc | apply Kd.V_drewN | apply Kd.V_drew)); exact HO549.out) (rB ho0) hb); have n4_ := aM (rE (by apply_rules [HO552.out, rN, rD]) (rB ho0) hb); have n5_ := aM (rE (by apply_rules [HO555.out, rN, rD]) (rB ho0) hb); have n6_ := aM (Kd.V_elder' (by (with_reducible repeat (first | apply Kd.V_alloc | apply Kd.V_drewN | apply Kd.V_drew)); exact HO558.out) (rB ho0) hb); have n7_ := aM (rE (by apply_rules [HO561.out, rN, rD]) (rB ho0) hb); have n8_ := aM (Kd.R_lower (rW (rW (rW (rW (rW (rW ho0 (rL (by apply_rules [HO_7.out, rN, rD]))) (rL (by apply_rules [HO543.out, rN, rD]))) (rL (by apply_rules [HO546.out, rN, rD]))) (rL (by apply_rules [HO552.out, rN, rD]))) (rL (by apply_rules [HO555.out, rN, rD]))) (rL (by apply_rules [HO561.out, rN, rD]))) (bZ (by apply_rules [HB.out, bA, pN, bD]))); have n9_ := aM (bS (by apply_rules [HB.out, bA, pN, bD]) hb); clear HO_7 HO543 HO546 HO549 HO552 HO555 HO558 HO561 HB; have HO_7 := n0_; have HO543 := n1_; have HO546 := n2_; have HO549 := n3_; have HO552 := n4_; have HO555 := n5_; have HO558 := n6_; have HO561 := n7_; have HO566 := n8_; have HB := n9_; clear n0_ n1_ n2_ n3_ n4_ n5_ n6_ n7_ n8_ n9_
               (try clear hb)
               (try clear hb2)
               (try clear hk)
               (try clear hi)
               (try clear ho0)
               obtain ⟨Ao55, co55, eo55⟩ := Kd.R_slice HO561.out
               (first | subst eo55 | (injection eo55 with f1_ f2_ f3_; have f4_ := f1_.symm; have f5_ := f3_.symm; clear f1_ f2_ f3_; subst f4_; subst f5_))
               obtain ⟨Ao56, co56, eo56⟩ := Kd.R_slice HO566.out
               (first | subst eo56 | (injection eo56 with f1_ f2_ f3_; have f4_ := f1_.symm; have f5_ := f3_.symm; clear f1_ f2_ f3_; subst f4_; subst f5_))
               refine hK.out _ _ ⟨HS0_, HS1_⟩ (fun hHeld => ?_)
               clear hK K
               refine norm_ (a' := ?_) ?_ ?_
               rotate_left
               ·show Act.put _ (some 93) _ = _
                simp only [Act.put, sI, sZ, sS, i64_w]
                rfl
               refine one_ (i := 16) (N := some 94) #[true, true, true, true, true, true, true, true, true, true, true, true, true, true, true, true, true, false, false] rfl rfl (one_of HT_.out (by kernel_rfl)) (by decide) (fun K hK => ?_)
               refine goes_ Try.func6 (by kernel_rfl) rfl #[.slice Ao55 t559.length co55, .slice Ao56 t564.length co56] (by rfl) rfl rfl (by (try simp only [mA, mC, mN]); first | done | rfl | (simp only [lD, lT]; rfl)) ?_
               with_reducible refine (dynamometerref0_Mul.calls k4 _ _ t559 _ _ t564 t567 _ ?side1 ?side2 ?side3 ?side4 A38.out).mono ?_
               (case side1 => repeat (first | exact (rS HO561.out).2.2 | (with_reducible refine cA ?_ _) | (with_reducible refine cN ?_ _) | (with_reducible refine cD ?_)))
               (case side2 => exact (rS HO561.out).2.1)
               (case side3 => repeat (first | exact (rS HO566.out).2.2 | (with_reducible refine cA ?_ _) | (with_reducible refine cN ?_ _) | (with_reducible refine cD ?_)))
               (case side4 => exact (rS HO566.out).2.1)
               rintro e w57 ⟨v568, rfl, ho0, hb⟩
               have HS0_ := (hb.cell (wL _ _ (hHeld.1))).trans (hHeld.1)
               have HS1_ := (hb.cell (wL _ _ (hHeld.2))).trans (hHeld.2)
               refine ⟨_, rfl, ?_⟩
               have n0_ := aM (rO (by apply_rules [HO_7.out, rN, rD]) hb); have n1_ := aM (rO (by apply_rules [HO543.out, rN, rD]) hb); have n2_ := aM (rO (by apply_rules [HO546.out, rN, rD]) hb); have n3_ := aM (Kd.V_below (by (with_reducible repeat (first | apply Kd.V_alloc | apply Kd.V_drewN | apply Kd.V_drew)); exact HO549.out) hb); have n4_ := aM (rO (by apply_rules [HO552.out, rN, rD]) hb); have n5_ := aM (rO (by apply_rules [HO555.out, rN, rD]) hb); have n6_ := aM (Kd.V_below (by (with_reducible repeat (first | apply Kd.V_alloc | apply Kd.V_drewN | apply Kd.V_drew)); exact HO558.out) hb); have n7_ := aM (rO (by apply_rules [HO561.out, rN, rD]) hb); have n8_ := aM (rO (by apply_rules [HO566.out, rN, rD]) hb); have n9_ := aM (Kd.V_lower (Kd.V_mono (ok' := fun k_ => some k_ ≠ (.slice (some ad562) t531.length co12 : Value).ownBlock ∧ some k_ ≠ (.slice Ao44 t541.length co44 : Value).ownBlock ∧ some k_ ≠ (.slice Ao45 t544.length co45 : Value).ownBlock ∧ some k_ ≠ (.slice Ao50 t550.length co50 : Value).ownBlock ∧ some k_ ≠ (.slice Ao51 t553.length co51 : Value).ownBlock ∧ some k_ ≠ (.slice Ao55 t559.length co55 : Value).ownBlock ∧ some k_ ≠ (.slice Ao56 t564.length co56 : Value).ownBlock) ho0 (fun k_ hk_ => ⟨(Kd.fresh' (rL (by apply_rules [HO_7.out, rN, rD])) k_ hk_), (Kd.fresh' (rL (by apply_rules [HO543.out, rN, rD])) k_ hk_), (Kd.fresh' (rL (by apply_rules [HO546.out, rN, rD])) k_ hk_), (Kd.fresh' (rL (by apply_rules [HO552.out, rN, rD])) k_ hk_), (Kd.fresh' (rL (by apply_rules [HO555.out, rN, rD])) k_ hk_), (Kd.fresh' (rL (by apply_rules [HO561.out, rN, rD])) k_ hk_), (Kd.fresh' (rL (by apply_rules [HO566.out, rN, rD])) k_ hk_)⟩)) (bZ (by apply_rules [HB.out, bA, pN, bD]))); have n10_ := aM (bS (by apply_rules [HB.out, bA, pN, bD]) hb); clear HO_7 HO543 HO546 HO549 HO552 HO555 HO558 HO561 HO566 HB; have HO_7 := n0_; have HO543 := n1_; have HO546 := n2_; have HO549 := n3_; have HO552 := n4_; have HO555 := n5_; have HO558 := n6_; have HO561 := n7_; have HO566 := n8_; have HO569 := n9_; have HB := n10_; clear n0_ n1_ n2_ n3_ n4_ n5_ n6_ n7_ n8_ n9_ n10_
               (try clear hb)
               (try clear hb2)
               (try clear hk)
               (try clear hi)
               (try clear ho0)
               obtain ⟨Ao58, co58, eo58⟩ := Kd.V_slice HO558.out
               (first | subst eo58 | (injection eo58 with f1_ f2_ f3_; have f4_ := f1_.symm; have f5_ := f3_.symm; clear f1_ f2_ f3_; subst f4_; subst f5_))
               obtain ⟨Ao59, co59, eo59⟩ := Kd.V_slice HO569.out
               (first | subst eo59 | (injection eo59 with f1_ f2_ f3_; have f4_ := f1_.symm; have f5_ := f3_.symm; clear f1_ f2_ f3_; subst f4_; subst f5_))
               refine hK.out _ _ ⟨HS0_, HS1_⟩ (fun hHeld => ?_)
               clear hK K
               refine norm_ (a' := ?_) ?_ ?_
               rotate_left
               ·show Act.put _ (some 94) _ = _
                simp only [Act.put, sI, sZ, sS, i64_w]
                rfl
               refine one_ (i := 17) (N := some 95) #[true, true, true, true, true, true, true, true, true, true, true, true, true, true, true, true, true, true, false] rfl rfl (one_of HT_.out (by kernel_rfl)) (by decide) (fun K hK => ?_)
               refine goes_ Try.func8 (by kernel_rfl) rfl #[.slice Ao58 t556.length co58, .slice Ao59 t567.length co59] (by rfl) rfl rfl (by (try simp only [mA, mC, mN]); first | done | rfl | (simp only [lD, lT]; rfl)) ?_
               with_reducible refine (dynamometerref0_Add.calls k4 _ _ t556 _ _ t567 t570 _ ?side1 ?side2 ?side3 ?side4 A39.out).mono ?_
               (case side1 => repeat (first | exact (Kd.V_reads' HO558.out).2.2 | (with_reducible refine cA ?_ _) | (with_reducible refine cN ?_ _) | (with_reducible refine cD ?_)))
               (case side2 => exact (Kd.V_reads' HO558.out).2.1)
               (case side3 => repeat (first | exact (Kd.V_reads' HO569.out).2.2 | (with_reducible refine cA ?_ _) | (with_reducible refine cN ?_ _) | (with_reducible refine cD ?_)))
               (case side4 => exact (Kd.V_reads' HO569.out).2.1)
               rintro e w60 ⟨v571, rfl, ho0, hb⟩
               have HS0_ := (hb.cell (wL _ _ (hHeld.1))).trans (hHeld.1)
               have HS1_ := (hb.cell (wL _ _ (hHeld.2))).trans (hHeld.2)
               refine ⟨_, rfl, ?_⟩
               have n0_ := aM (rE (by apply_rules [HO_7.out, rN, rD]) (rB ho0) hb); have n1_ := aM (rE (by apply_rules [HO543.out, rN, rD]) (rB ho0) hb); have n2_ := aM (rE (by apply_rules [HO546.out, rN, rD]) (rB ho0) hb); have n3_ := aM (Kd.V_elder' (by (with_reducible repeat (first | apply Kd.V_alloc | apply Kd.V_drewN | apply Kd.V_drew)); exact HO549.out) (rB ho0) hb); have n4_ := aM (rE (by apply_rules [HO552.out, rN, rD]) (rB ho0) hb); have n5_ := aM (rE (by apply_rules [HO555.out, rN, rD]) (rB ho0) hb); have n6_ := aM (Kd.V_elder' (by (with_reducible repeat (first | apply Kd.V_alloc | apply Kd.V_drewN | apply Kd.V_drew)); exact HO558.out) (rB ho0) hb); have n7_ := aM (rE (by apply_rules [HO561.out, rN, rD]) (rB ho0) hb); have n8_ := aM (rE (by apply_rules [HO566.out, rN, rD]) (rB ho0) hb); have n9_ := aM (Kd.V_elder' (by (with_reducible repeat (first | apply Kd.V_alloc | apply Kd.V_drewN | apply Kd.V_drew)); exact HO569.out) (rB ho0) hb); have n10_ := aM (Kd.R_lower (rW (rW (rW (rW (rW (rW (rW ho0 (rL (by apply_rules [HO_7.out, rN, rD]))) (rL (by apply_rules [HO543.out, rN, rD]))) (rL (by apply_rules [HO546.out, rN, rD]))) (rL (by apply_rules [HO552.out, rN, rD]))) (rL (by apply_rules [HO555.out, rN, rD]))) (rL (by apply_rules [HO561.out, rN, rD]))) (rL (by apply_rules [HO566.out, rN, rD]))) (bZ (by apply_rules [HB.out, bA, pN, bD]))); have n11_ := aM (bS (by apply_rules [HB.out, bA, pN, bD]) hb); clear HO_7 HO543 HO546 HO549 HO552 HO555 HO558 HO561 HO566 HO569 HB; have HO_7 := n0_; have HO543 := n1_; have HO546 := n2_; have HO549 := n3_; have HO552 := n4_; have HO555 := n5_; have HO558 := n6_; have HO561 := n7_; have HO566 := n8_; have HO569 := n9_; have HO572 := n10_; have HB := n11_; clear n0_ n1_ n2_ n3_ n4_ n5_ n6_ n7_ n8_ n9_ n10_ n11_
               (try clear hb)
               (try clear hb2)
               (try clear hk)
               (try clear hi)
               (try clear ho0)
               refine hK.out _ _ ⟨HS0_, HS1_⟩ (fun hHeld => ?_)
               clear hK K
               refine norm_ (a' := ?_) ?_ ?_
               rotate_left
               ·show Act.put _ (some 95) _ = _
                simp only [Act.put, sI, sZ, sS, i64_w]
                rfl
               refine pure_ (i := 18) (N := some 12) (v := ?_) (a' := ?_) #[true, true, true, true, true, true, true, true, true, true, true, true, true, true, true, true, true, true, true] rfl rfl (any_of HT_.out (by kernel_rfl)) (fun _ _ _ h => h) (Or.inl ⟨by rfl, ?_⟩) ?_ ?_
               rotate_left
               ·intro w'
                go_simp
                with_reducible rfl
               rotate_left
               ·simp only [Act.put, sI, sZ, sS, i64_w]
                rfl
               refine done_ (done_of HT_.out (by kernel_rfl)) ?_
               obtain ⟨Ao61, co61, eo61⟩ := Kd.V_slice HO549.out
               subst eo61
               obtain ⟨Ao62, co62, eo62⟩ := Kd.R_slice HO572.out
               subst eo62
               try go_wp2_with (first | ((with_reducible refine gC (f := 9) rfl ?_); refine gL (some 98) rfl rfl Try.func9 (by kernel_rfl) rfl #[.slice Ao61 t547.length co61, .slice Ao62 t570.length co62] rfl (by (try simp only [mA, mC, mN]); first | done | rfl | (simp only [lD, lT]; rfl)) ?_; (with_reducible refine (dynamometerref0_Cmp.calls k4 _ _ t547 _ _ t570 t573 _ ?side1 ?side2 ?side3 ?side4 A40.out).mono ?_); (case side1 => repeat (first | exact (Kd.V_reads' HO549.out).2.2 | (with_reducible refine cA ?_ _) | (with_reducible refine cN ?_ _) | (with_reducible refine cD ?_))); (case side2 => exact (Kd.V_reads' HO549.out).2.1); (case side3 => repeat (first | exact (rS HO572.out).2.2 | (with_reducible refine cA ?_ _) | (with_reducible refine cN ?_ _) | (with_reducible refine cD ?_))); (case side4 => exact (rS HO572.out).2.1); rintro e w' ⟨rfl, ⟨nd, rfl⟩⟩; refine ⟨_, rfl, ?_⟩))
               go_ret
               exact ⟨by first | rfl | (simp [errW_none, errW_some] <;> rfl) | (simp [*, errW_none, errW_some] <;> rfl), by apply_rules [HB.out, bA, pN, bD]⟩
              ·rw [if_neg c41] at H
               have c41b0 : decide (0 < t573) = false := decide_eq_false c41
               clear c41; have H' := aM H; clear H
               try go_wp2_with (first | ((with_reducible refine gC (f := 7) rfl ?_); refine gL (some 75) rfl rfl Try.func7 (by kernel_rfl) rfl #[.int .i64 (wrap64 ((wrap64 (x10_4 - x9_2)) + 1))] rfl (by (try simp only [mA, mC, mN]); first | done | rfl | (simp only [lD, lT]; rfl)) ?_; (with_reducible refine (dynamometerref0_Of.calls k4 (wrap64 ((wrap64 (x10_4 - x9_2)) + 1)) t541 _ A27.out).mono ?_); rintro e w63 ⟨v542, rfl, ho0, hb⟩; refine ⟨_, rfl, ?_⟩; have n0_ := aM (rE (by apply_rules [HO_7.out, rN, rD]) (rB ho0) hb); have n1_ := aM (Kd.R_lower (rW ho0 (rL (by apply_rules [HO_7.out, rN, rD]))) (bZ (by apply_rules [HB.out, bA, pN, bD]))); have n2_ := aM (bS (by apply_rules [HB.out, bA, pN, bD]) hb); clear HO_7 HB; have HO_7 := n0_; have HO543 := n1_; have HB := n2_; clear n0_ n1_ n2_; (try clear hb); (try clear hb2); (try clear hk); (try clear hi); (try clear ho0)) | ((with_reducible refine gC (f := 7) rfl ?_); refine gL (some 76) rfl rfl Try.func7 (by kernel_rfl) rfl #[.int .i64 1000000000] rfl (by (try simp only [mA, mC, mN]); first | done | rfl | (simp only [lD, lT]; rfl)) ?_; (with_reducible refine (dynamometerref0_Of.calls k4 1000000000 t544 _ A28.out).mono ?_); rintro e w64 ⟨v545, rfl, ho0, hb⟩; refine ⟨_, rfl, ?_⟩; have n0_ := aM (rE (by apply_rules [HO_7.out, rN, rD]) (rB ho0) hb); have n1_ := aM (rE (by apply_rules [HO543.out, rN, rD]) (rB ho0) hb); have n2_ := aM (Kd.R_lower (rW (rW ho0 (rL (by apply_rules [HO_7.out, rN, rD]))) (rL (by apply_rules [HO543.out, rN, rD]))) (bZ (by apply_rules [HB.out, bA, pN, bD]))); have n3_ := aM (bS (by apply_rules [HB.out, bA, pN, bD]) hb); clear HO_7 HO543 HB; have HO_7 := n0_; have HO543 := n1_; have HO546 := n2_; have HB := n3_; clear n0_ n1_ n2_ n3_; (try clear hb); (try clear hb2); (try clear hk); (try clear hi); (try clear ho0); obtain ⟨Ao65, co65, eo65⟩ := Kd.R_slice HO543.out; subst eo65; obtain ⟨Ao66, co66, eo66⟩ := Kd.R_slice HO546.out; subst eo66) | ((with_reducible refine gC (f := 6) rfl ?_); refine gL (some 77) rfl rfl Try.func6 (by kernel_rfl) rfl #[.slice Ao65 t541.length co65, .slice Ao66 t544.length co66] rfl (by (try simp only [mA, mC, mN]); first | done | rfl | (simp only [lD, lT]; rfl)) ?_; (with_reducible refine (dynamometerref0_Mul.calls k4 _ _ t541 _ _ t544 t547 _ ?side1 ?side2 ?side3 ?side4 A29.out).mono ?_); (case side1 => repeat (first | exact (rS HO543.out).2.2 | (with_reducible refine cA ?_ _) | (with_reducible refine cN ?_ _) | (with_reducible refine cD ?_))); (case side2 => exact (rS HO543.out).2.1); (case side3 => repeat (first | exact (rS HO546.out).2.2 | (with_reducible refine cA ?_ _) | (with_reducible refine cN ?_ _) | (with_reducible refine cD ?_))); (case side4 => exact (rS HO546.out).2.1); rintro e w67 ⟨v548, rfl, ho0, hb⟩; refine ⟨_, rfl, ?_⟩; have n0_ := aM (rO (by apply_rules [HO_7.out, rN, rD]) hb); have n1_ := aM (rO (by apply_rules [HO543.out, rN, rD]) hb); have n2_ := aM (rO (by apply_rules [HO546.out, rN, rD]) hb); have n3_ := aM (Kd.V_lower (Kd.V_mono (ok' := fun k_ => some k_ ≠ (.slice Ao12 t531.length co12 : Value).ownBlock ∧ some k_ ≠ (.slice Ao65 t541.length co65 : Value).ownBlock ∧ some k_ ≠ (.slice Ao66 t544.length co66 : Value).ownBlock) ho0 (fun k_ hk_ => ⟨(Kd.fresh' (rL (by apply_rules [HO_7.out, rN, rD])) k_ hk_), (Kd.fresh' (rL (by apply_rules [HO543.out, rN, rD])) k_ hk_), (Kd.fresh' (rL (by apply_rules [HO546.out, rN, rD])) k_ hk_)⟩)) (bZ (by apply_rules [HB.out, bA, pN, bD]))); have n4_ := aM (bS (by apply_rules [HB.out, bA, pN, bD]) hb); clear HO_7 HO543 HO546 HB; have HO_7 := n0_; have HO543 := n1_; have HO546 := n2_; have HO549 := n3_; have HB := n4_; clear n0_ n1_ n2_ n3_ n4_; (try clear hb); (try clear hb2); (try clear hk); (try clear hi); (try clear ho0)))
               have n0_ := aM (rD HO_7.out); have n1_ := aM (rD HO543.out); have n2_ := aM (rD HO546.out); have n3_ := aM (Kd.V_drew HO549.out); have n4_ := aM (bD HB.out); clear HO_7 HO543 HO546 HO549 HB; have HO_7 := n0_; have HO543 := n1_; have HO546 := n2_; have HO549 := n3_; have HB := n4_; clear n0_ n1_ n2_ n3_ n4_
               have p562 : 0 ≤ (x10_4 : Int) := oD (by first | (with_reducible assumption) | assumption)
               have q562 : x10_4 < (t531.length : Int) := oD (by first | (with_reducible assumption) | assumption)
               obtain ⟨ad562, e562, hx562_0⟩ := Kd.at_int (rS HO_7.out).2.2 x10_4 p562 q562
               cases e562
               replace p562 := eq_true p562
               replace q562 := eq_true q562
               have p563 : 0 ≤ (x9_2 : Int) := oD (by first | (with_reducible assumption) | assumption)
               have q563 : x9_2 < (t531.length : Int) := oD (by first | (with_reducible assumption) | assumption)
               obtain ⟨ad563, e563, hx563_0⟩ := Kd.at_int (rS HO_7.out).2.2 x9_2 p563 q563
               obtain rfl : ad562 = ad563 := (by injection e563)
               replace p563 := eq_true p563
               replace q563 := eq_true q563
               refine start_ (n := 19) (S := fun w' => w'.cell? (ad562.add (x10_4).toNat) = some (.int .i64 (rd t531 x10_4)) ∧ w'.cell? (ad562.add (x9_2).toNat) = some (.int .i64 (rd t531 x9_2))) (ds := []) #[false, false, false, false, false, false, false, false, false, false, false, false, false, false, false, false, false, false, false] (by kernel_rfl) rfl rfl ⟨hx562_0, hx563_0⟩ (fun hHeld => ?_); refine with_tabW dynamometerlaw7_LoadAdmitKeepsTheLimit.tab15 dynamometerlaw7_LoadAdmitKeepsTheLimit.bits15 (fun HT_ HW_ => ?_)
               generalize w67.drew = w68 at HO_7 HO543 HO546 HO549 HB hx562_0 hx563_0 hHeld ⊢
               refine pure_ (i := 0) (N := some 78) (v := ?_) (a' := ?_) #[true, false, false, false, false, false, false, false, false, false, false, false, false, false, false, false, false, false, false] rfl rfl (any_of HT_.out (by kernel_rfl)) (fun _ _ _ h => h) (Or.inl ⟨by rfl, ?_⟩) ?_ ?_
               rotate_left
               ·intro w'
                go_simp
                with_reducible rfl
               rotate_left
               ·simp only [Act.put, sI, sZ, sS, i64_w]
                rfl
               refine pure_ (i := 4) (N := some 82) (v := ?_) (a' := ?_) #[true, false, false, false, true, false, false, false, false, false, false, false, false, false, false, false, false, false, false] rfl rfl (any_of HT_.out (by kernel_rfl)) (fun _ _ _ h => h) (Or.inl ⟨by rfl, ?_⟩) ?_ ?_
               rotate_left
               ·intro w'
                go_simp
                with_reducible rfl
               rotate_left
               ·simp only [Act.put, sI, sZ, sS, i64_w]
                rfl
               refine pure_ (i := 6) (N := some 84) (v := ?_) (a' := ?_) #[true, false, false, false, true, false, true, false, false, false, false, false, false, false, false, false, false, false, false] rfl rfl (any_of HT_.out (by kernel_rfl)) (fun _ _ _ h => h) (Or.inl ⟨by rfl, ?_⟩) ?_ ?_
               rotate_left
               ·intro w'
                go_simp
                with_reducible rfl
               rotate_left
               ·simp only [Act.put, sI, sZ, sS, i64_w]
                rfl
               refine pure_ (i := 7) (N := some 85) (v := ?_) (a' := ?_) #[true, false, false, false, true, false, true, true, false, false, false, false, false, false, false, false, false, false, false] rfl rfl (any_of HT_.out (by kernel_rfl)) (fun _ _ _ h => h) (Or.inl ⟨by rfl, ?_⟩) ?_ ?_
               rotate_left
               ·intro w'
                go_simp
                with_reducible rfl
               rotate_left
               ·simp only [Act.put, sI, sZ, sS, i64_w]
                rfl
               refine pure_ (i := 8) (N := some 86) (v := ?_) (a' := ?_) #[true, false, false, false, true, false, true, true, true, false, false, false, false, false, false, false, false, false, false] rfl rfl (any_of HT_.out (by kernel_rfl)) (fun _ _ _ h => h) (Or.inl ⟨by rfl, ?_⟩) ?_ ?_
               rotate_left
               ·intro w'
                go_simp
                with_reducible rfl
               rotate_left
               ·simp only [Act.put, sI, sZ, sS, i64_w]
                rfl
               refine pure_ (i := 10) (N := some 88) (v := ?_) (a' := ?_) #[true, false, false, false, true, false, true, true, true, false, true, false, false, false, false, false, false, false, false] rfl rfl (any_of HT_.out (by kernel_rfl)) (fun _ _ _ h => h) (Or.inl ⟨by rfl, ?_⟩) ?_ ?_
               rotate_left
               ·intro w'
                go_simp
                with_reducible rfl
               rotate_left
               ·simp only [Act.put, sI, sZ, sS, i64_w]
                rfl
               refine pure_ (i := 11) (N := some 89) (v := ?_) (a' := ?_) #[true, false, false, false, true, false, true, true, true, false, true, true, false, false, false, false, false, false, false] rfl rfl (any_of HT_.out (by kernel_rfl)) (fun _ _ _ h => h) (Or.inl ⟨by rfl, ?_⟩) ?_ ?_
               rotate_left
               ·intro w'
                go_simp
                with_reducible rfl
               rotate_left
               ·simp only [Act.put, sI, sZ, sS, i64_w]
                rfl
               refine pure_ (i := 12) (N := some 90) (v := ?_) (a' := ?_) #[true, false, false, false, true, false, true, true, true, false, true, true, true, false, false, false, false, false, false] rfl rfl (any_of HT_.out (by kernel_rfl)) (fun _ _ _ h => h) (Or.inl ⟨by rfl, ?_⟩) ?_ ?_
               rotate_left
               ·intro w'
                go_simp
                with_reducible rfl
               rotate_left
               ·simp only [Act.put, sI, sZ, sS, i64_w]
                rfl
               refine take_ (i := 9) (N := some 87) (v := ?_) (a' := ?_) #[true, false, false, false, true, false, true, true, true, true, true, true, true, false, false, false, false, false, false] rfl rfl (take_ofW HT_.out HW_.out (by kernel_rfl)) (fun _ _ _ h => h) (Or.inl ⟨by rfl, ?_⟩) hHeld ?_ ?_
               rotate_left
               ·rintro w' ⟨s0, s1⟩
                go_simp
                with_reducible rfl
               rotate_left
               ·simp only [Act.put, sI, sZ, sS, i64_w]
                rfl
               refine take_ (i := 13) (N := some 91) (v := ?_) (a' := ?_) #[true, false, false, false, true, false, true, true, true, true, true, true, true, true, false, false, false, false, false] rfl rfl (take_ofW HT_.out HW_.out (by kernel_rfl)) (fun _ _ _ h => h) (Or.inl ⟨by rfl, ?_⟩) hHeld ?_ ?_
               rotate_left
               ·rintro w' ⟨s0, s1⟩
                go_simp
                with_reducible rfl
               rotate_left
               ·simp only [Act.put, sI, sZ, sS, i64_w]
                rfl
               refine pure_ (i := 14) (N := some 92) (v := ?_) (a' := ?_) #[true, false, false, false, true, false, true, true, true, true, true, true, true, true, true, false, false, false, false] rfl rfl (any_of HT_.out (by kernel_rfl)) (fun _ _ _ h => h) (Or.inl ⟨by rfl, ?_⟩) ?_ ?_
               rotate_left
               ·intro w'
                go_simp
                with_reducible rfl
               rotate_left
               ·simp only [Act.put, sI, sZ, sS, i64_w]
                rfl
               refine one_ (i := 1) (N := some 79) #[true, true, false, false, true, false, true, true, true, true, true, true, true, true, true, false, false, false, false] rfl rfl (one_of HT_.out (by kernel_rfl)) (by decide) (fun K hK => ?_)
               refine goes_ Try.func7 (by kernel_rfl) rfl #[.int .i64 a2] (by rfl) rfl rfl (by (try simp only [mA, mC, mN]); first | done | rfl | (simp only [lD, lT]; rfl)) ?_
               with_reducible refine (dynamometerref0_Of.calls k4 a2 t550 _ A30.out).mono ?_
               rintro e w69 ⟨v551, rfl, ho0, hb⟩
               have HS0_ := (hb.cell (wL _ _ (hHeld.1))).trans (hHeld.1)
               have HS1_ := (hb.cell (wL _ _ (hHeld.2))).trans (hHeld.2)
               refine ⟨_, rfl, ?_⟩
               have n0_ := aM (rE (by apply_rules [HO_7.out, rN, rD]) (rB ho0) hb); have n1_ := aM (rE (by apply_rules [HO543.out, rN, rD]) (rB ho0) hb); have n2_ := aM (rE (by apply_rules [HO546.out, rN, rD]) (rB ho0) hb); have n3_ := aM (Kd.V_elder' (by (with_reducible repeat (first | apply Kd.V_alloc | apply Kd.V_drewN | apply Kd.V_drew)); exact HO549.out) (rB ho0) hb); have n4_ := aM (Kd.R_lower (rW (rW (rW ho0 (rL (by apply_rules [HO_7.out, rN, rD]))) (rL (by apply_rules [HO543.out, rN, rD]))) (rL (by apply_rules [HO546.out, rN, rD]))) (bZ (by apply_rules [HB.out, bA, pN, bD]))); have n5_ := aM (bS (by apply_rules [HB.out, bA, pN, bD]) hb); clear HO_7 HO543 HO546 HO549 HB; have HO_7 := n0_; have HO543 := n1_; have HO546 := n2_; have HO549 := n3_; have HO552 := n4_; have HB := n5_; clear n0_ n1_ n2_ n3_ n4_ n5_
               (try clear hb)
               (try clear hb2)
               (try clear hk)
               (try clear hi)
               (try clear ho0)
               refine hK.out _ _ ⟨HS0_, HS1_⟩ (fun hHeld => ?_)
               clear hK K
               refine norm_ (a' := ?_) ?_ ?_
               rotate_left
               ·show Act.put _ (some 79) _ = _
                simp only [Act.put, sI, sZ, sS, i64_w]
                rfl
               refine one_ (i := 2) (N := some 80) #[true, true, true, false, true, false, true, true, true, true, true, true, true, true, true, false, false, false, false] rfl rfl (one_of HT_.out (by kernel_rfl)) (by decide) (fun K hK => ?_)
               refine goes_ Try.func7 (by kernel_rfl) rfl #[.int .i64 1000000000] (by rfl) rfl rfl (by (try simp only [mA, mC, mN]); first | done | rfl | (simp only [lD, lT]; rfl)) ?_
               with_reducible refine (dynamometerref0_Of.calls k4 1000000000 t553 _ A31.out).mono ?_
               rintro e w70 ⟨v554, rfl, ho0, hb⟩
               have HS0_ := (hb.cell (wL _ _ (hHeld.1))).trans (hHeld.1)
               have HS1_ := (hb.cell (wL _ _ (hHeld.2))).trans (hHeld.2)
               refine ⟨_, rfl, ?_⟩
               have n0_ := aM (rE (by apply_rules [HO_7.out, rN, rD]) (rB ho0) hb); have n1_ := aM (rE (by apply_rules [HO543.out, rN, rD]) (rB ho0) hb); have n2_ := aM (rE (by apply_rules [HO546.out, rN, rD]) (rB ho0) hb); have n3_ := aM (Kd.V_elder' (by (with_reducible repeat (first | apply Kd.V_alloc | apply Kd.V_drewN | apply Kd.V_drew)); exact HO549.out) (rB ho0) hb); have n4_ := aM (rE (by apply_rules [HO552.out, rN, rD]) (rB ho0) hb); have n5_ := aM (Kd.R_lower (rW (rW (rW (rW ho0 (rL (by apply_rules [HO_7.out, rN, rD]))) (rL (by apply_rules [HO543.out, rN, rD]))) (rL (by apply_rules [HO546.out, rN, rD]))) (rL (by apply_rules [HO552.out, rN, rD]))) (bZ (by apply_rules [HB.out, bA, pN, bD]))); have n6_ := aM (bS (by apply_rules [HB.out, bA, pN, bD]) hb); clear HO_7 HO543 HO546 HO549 HO552 HB; have HO_7 := n0_; have HO543 := n1_; have HO546 := n2_; have HO549 := n3_; have HO552 := n4_; have HO555 := n5_; have HB := n6_; clear n0_ n1_ n2_ n3_ n4_ n5_ n6_
               (try clear hb)
               (try clear hb2)
               (try clear hk)
               (try clear hi)
               (try clear ho0)
               obtain ⟨Ao71, co71, eo71⟩ := Kd.R_slice HO552.out
               (first | subst eo71 | (injection eo71 with f1_ f2_ f3_; have f4_ := f1_.symm; have f5_ := f3_.symm; clear f1_ f2_ f3_; subst f4_; subst f5_))
               obtain ⟨Ao72, co72, eo72⟩ := Kd.R_slice HO555.out
               (first | subst eo72 | (injection eo72 with f1_ f2_ f3_; have f4_ := f1_.symm; have f5_ := f3_.symm; clear f1_ f2_ f3_; subst f4_; subst f5_))
               refine hK.out _ _ ⟨HS0_, HS1_⟩ (fun hHeld => ?_)
               clear hK K
               refine norm_ (a' := ?_) ?_ ?_
               rotate_left
               ·show Act.put _ (some 80) _ = _
                simp only [Act.put, sI, sZ, sS, i64_w]
                rfl
               refine one_ (i := 3) (N := some 81) #[true, true, true, true, true, false, true, true, true, true, true, true, true, true, true, false, false, false, false] rfl rfl (one_of HT_.out (by kernel_rfl)) (by decide) (fun K hK => ?_)
               refine goes_ Try.func6 (by kernel_rfl) rfl #[.slice Ao71 t550.length co71, .slice Ao72 t553.length co72] (by rfl) rfl rfl (by (try simp only [mA, mC, mN]); first | done | rfl | (simp only [lD, lT]; rfl)) ?_
               with_reducible refine (dynamometerref0_Mul.calls k4 _ _ t550 _ _ t553 t556 _ ?side1 ?side2 ?side3 ?side4 A32.out).mono ?_
               (case side1 => repeat (first | exact (rS HO552.out).2.2 | (with_reducible refine cA ?_ _) | (with_reducible refine cN ?_ _) | (with_reducible refine cD ?_)))
               (case side2 => exact (rS HO552.out).2.1)
               (case side3 => repeat (first | exact (rS HO555.out).2.2 | (with_reducible refine cA ?_ _) | (with_reducible refine cN ?_ _) | (with_reducible refine cD ?_)))
               (case side4 => exact (rS HO555.out).2.1)
               rintro e w73 ⟨v557, rfl, ho0, hb⟩
               have HS0_ := (hb.cell (wL _ _ (hHeld.1))).trans (hHeld.1)
               have HS1_ := (hb.cell (wL _ _ (hHeld.2))).trans (hHeld.2)
               refine ⟨_, rfl, ?_⟩
               have n0_ := aM (rO (by apply_rules [HO_7.out, rN, rD]) hb); have n1_ := aM (rO (by apply_rules [HO543.out, rN, rD]) hb); have n2_ := aM (rO (by apply_rules [HO546.out, rN, rD]) hb); have n3_ := aM (Kd.V_below (by (with_reducible repeat (first | apply Kd.V_alloc | apply Kd.V_drewN | apply Kd.V_drew)); exact HO549.out) hb); have n4_ := aM (rO (by apply_rules [HO552.out, rN, rD]) hb); have n5_ := aM (rO (by apply_rules [HO555.out, rN, rD]) hb); have n6_ := aM (Kd.V_lower (Kd.V_mono (ok' := fun k_ => some k_ ≠ (.slice (some ad562) t531.length co12 : Value).ownBlock ∧ some k_ ≠ (.slice Ao65 t541.length co65 : Value).ownBlock ∧ some k_ ≠ (.slice Ao66 t544.length co66 : Value).ownBlock ∧ some k_ ≠ (.slice Ao71 t550.length co71 : Value).ownBlock ∧ some k_ ≠ (.slice Ao72 t553.length co72 : Value).ownBlock) ho0 (fun k_ hk_ => ⟨(Kd.fresh' (rL (by apply_rules [HO_7.out, rN, rD])) k_ hk_), (Kd.fresh' (rL (by apply_rules [HO543.out, rN, rD])) k_ hk_), (Kd.fresh' (rL (by apply_rules [HO546.out, rN, rD])) k_ hk_), (Kd.fresh' (rL (by apply_rules [HO552.out, rN, rD])) k_ hk_), (Kd.fresh' (rL (by apply_rules [HO555.out, rN, rD])) k_ hk_)⟩)) (bZ (by apply_rules [HB.out, bA, pN, bD]))); have n7_ := aM (bS (by apply_rules [HB.out, bA, pN, bD]) hb); clear HO_7 HO543 HO546 HO549 HO552 HO555 HB; have HO_7 := n0_; have HO543 := n1_; have HO546 := n2_; have HO549 := n3_; have HO552 := n4_; have HO555 := n5_; have HO558 := n6_; have HB := n7_; clear n0_ n1_ n2_ n3_ n4_ n5_ n6_ n7_
               (try clear hb)
               (try clear hb2)
               (try clear hk)
               (try clear hi)
               (try clear ho0)
               refine hK.out _ _ ⟨HS0_, HS1_⟩ (fun hHeld => ?_)
               clear hK K
               refine norm_ (a' := ?_) ?_ ?_
               rotate_left
               ·show Act.put _ (some 81) _ = _
                simp only [Act.put, sI, sZ, sS, i64_w]
                rfl
               refine one_ (i := 5) (N := some 83) #[true, true, true, true, true, true, true, true, true, true, true, true, true, true, true, false, false, false, false] rfl rfl (one_of HT_.out (by kernel_rfl)) (by decide) (fun K hK => ?_)
               refine goes_ Try.func7 (by kernel_rfl) rfl #[.int .i64 a1] (by rfl) rfl rfl (by (try simp only [mA, mC, mN]); first | done | rfl | (simp only [lD, lT]; rfl)) ?_
               with_reducible refine (dynamometerref0_Of.calls k4 a1 t559 _ A33.out).mono ?_
               rintro e w74 ⟨v560, rfl, ho0, hb⟩
               have HS0_ := (hb.cell (wL _ _ (hHeld.1))).trans (hHeld.1)
               have HS1_ := (hb.cell (wL _ _ (hHeld.2))).trans (hHeld.2)
               refine ⟨_, rfl, ?_⟩
               have n0_ := aM (rE (by apply_rules [HO_7.out, rN, rD]) (rB ho0) hb); have n1_ := aM (rE (by apply_rules [HO543.out, rN, rD]) (rB ho0) hb); have n2_ := aM (rE (by apply_rules [HO546.out, rN, rD]) (rB ho0) hb); have n3_ := aM (Kd.V_elder' (by (with_reducible repeat (first | apply Kd.V_alloc | apply Kd.V_drewN | apply Kd.V_drew)); exact HO549.out) (rB ho0) hb); have n4_ := aM (rE (by apply_rules [HO552.out, rN, rD]) (rB ho0) hb); have n5_ := aM (rE (by apply_rules [HO555.out, rN, rD]) (rB ho0) hb); have n6_ := aM (Kd.V_elder' (by (with_reducible repeat (first | apply Kd.V_alloc | apply Kd.V_drewN | apply Kd.V_drew)); exact HO558.out) (rB ho0) hb); have n7_ := aM (Kd.R_lower (rW (rW (rW (rW (rW ho0 (rL (by apply_rules [HO_7.out, rN, rD]))) (rL (by apply_rules [HO543.out, rN, rD]))) (rL (by apply_rules [HO546.out, rN, rD]))) (rL (by apply_rules [HO552.out, rN, rD]))) (rL (by apply_rules [HO555.out, rN, rD]))) (bZ (by apply_rules [HB.out, bA, pN, bD]))); have n8_ := aM (bS (by apply_rules [HB.out, bA, pN, bD]) hb); clear HO_7 HO543 HO546 HO549 HO552 HO555 HO558 HB; have HO_7 := n0_; have HO543 := n1_; have HO546 := n2_; have HO549 := n3_; have HO552 := n4_; have HO555 := n5_; have HO558 := n6_; have HO561 := n7_; have HB := n8_; clear n0_ n1_ n2_ n3_ n4_ n5_ n6_ n7_ n8_
               (try clear hb)
               (try clear hb2)
               (try clear hk)
               (try clear hi)
               (try clear ho0)
               refine hK.out _ _ ⟨HS0_, HS1_⟩ (fun hHeld => ?_)
               clear hK K
               refine norm_ (a' := ?_) ?_ ?_
               rotate_left
               ·show Act.put _ (some 83) _ = _
                simp only [Act.put, sI, sZ, sS, i64_w]
                rfl
               refine one_ (i := 15) (N := some 93) #[true, true, true, true, true, true, true, true, true, true, true, true, true, true, true, true, false, false, false] rfl rfl (one_of HT_.out (by kernel_rfl)) (by decide) (fun K hK => ?_)
               refine goes_ Try.func7 (by kernel_rfl) rfl #[.int .i64 (wrap64 ((rd t531 x10_4) - (rd t531 x9_2)))] (by rfl) rfl rfl (by (try simp only [mA, mC, mN]); first | done | rfl | (simp only [lD, lT]; rfl)) ?_
               with_reducible refine (dynamometerref0_Of.calls k4 (wrap64 ((rd t531 x10_4) - (rd t531 x9_2))) t564 _ A37.out).mono ?_
               rintro e w75 ⟨v565, rfl, ho0, hb⟩
               have HS0_ := (hb.cell (wL _ _ (hHeld.1))).trans (hHeld.1)
               have HS1_ := (hb.cell (wL _ _ (hHeld.2))).trans (hHeld.2)
               refine ⟨_, rfl, ?_⟩
               have n0_ := aM (rE (by apply_rules [HO_7.out, rN, rD]) (rB ho0) hb); have n1_ := aM (rE (by apply_rules [HO543.out, rN, rD]) (rB ho0) hb); have n2_ := aM (rE (by apply_rules [HO546.out, rN, rD]) (rB ho0) hb); have n3_ := aM (Kd.V_elder' (by (with_reducible repeat (first | apply Kd.V_alloc | apply Kd.V_drewN | apply Kd.V_drew)); exact HO549.out) (rB ho0) hb); have n4_ := aM (rE (by apply_rules [HO552.out, rN, rD]) (rB ho0) hb); have n5_ := aM (rE (by apply_rules [HO555.out, rN, rD]) (rB ho0) hb); have n6_ := aM (Kd.V_elder' (by (with_reducible repeat (first | apply Kd.V_alloc | apply Kd.V_drewN | apply Kd.V_drew)); exact HO558.out) (rB ho0) hb); have n7_ := aM (rE (by apply_rules [HO561.out, rN, rD]) (rB ho0) hb); have n8_ := aM (Kd.R_lower (rW (rW (rW (rW (rW (rW ho0 (rL (by apply_rules [HO_7.out, rN, rD]))) (rL (by apply_rules [HO543.out, rN, rD]))) (rL (by apply_rules [HO546.out, rN, rD]))) (rL (by apply_rules [HO552.out, rN, rD]))) (rL (by apply_rules [HO555.out, rN, rD]))) (rL (by apply_rules [HO561.out, rN, rD]))) (bZ (by apply_rules [HB.out, bA, pN, bD]))); have n9_ := aM (bS (by apply_rules [HB.out, bA, pN, bD]) hb); clear HO_7 HO543 HO546 HO549 HO552 HO555 HO558 HO561 HB; have HO_7 := n0_; have HO543 := n1_; have HO546 := n2_; have HO549 := n3_; have HO552 := n4_; have HO555 := n5_; have HO558 := n6_; have HO561 := n7_; have HO566 := n8_; have HB := n9_; clear n0_ n1_ n2_ n3_ n4_ n5_ n6_ n7_ n8_ n9_
               (try clear hb)
               (try clear hb2)
               (try clear hk)
               (try clear hi)
               (try clear ho0)
               obtain ⟨Ao76, co76, eo76⟩ := Kd.R_slice HO561.out
               (first | subst eo76 | (injection eo76 with f1_ f2_ f3_; have f4_ := f1_.symm; have f5_ := f3_.symm; clear f1_ f2_ f3_; subst f4_; subst f5_))
               obtain ⟨Ao77, co77, eo77⟩ := Kd.R_slice HO566.out
               (first | subst eo77 | (injection eo77 with f1_ f2_ f3_; have f4_ := f1_.symm; have f5_ := f3_.symm; clear f1_ f2_ f3_; subst f4_; subst f5_))
               refine hK.out _ _ ⟨HS0_, HS1_⟩ (fun hHeld => ?_)
               clear hK K
               refine norm_ (a' := ?_) ?_ ?_
               rotate_left
               ·show Act.put _ (some 93) _ = _
                simp only [Act.put, sI, sZ, sS, i64_w]
                rfl
               refine one_ (i := 16) (N := some 94) #[true, true, true, true, true, true, true, true, true, true, true, true, true, true, true, true, true, false, false] rfl rfl (one_of HT_.out (by kernel_rfl)) (by decide) (fun K hK => ?_)
               refine goes_ Try.func6 (by kernel_rfl) rfl #[.slice Ao76 t559.length co76, .slice Ao77 t564.length co77] (by rfl) rfl rfl (by (try simp only [mA, mC, mN]); first | done | rfl | (simp only [lD, lT]; rfl)) ?_
               with_reducible refine (dynamometerref0_Mul.calls k4 _ _ t559 _ _ t564 t567 _ ?side1 ?side2 ?side3 ?side4 A38.out).mono ?_
               (case side1 => repeat (first | exact (rS HO561.out).2.2 | (with_reducible refine cA ?_ _) | (with_reducible refine cN ?_ _) | (with_reducible refine cD ?_)))
               (case side2 => exact (rS HO561.out).2.1)
               (case side3 => repeat (first | exact (rS HO566.out).2.2 | (with_reducible refine cA ?_ _) | (with_reducible refine cN ?_ _) | (with_reducible refine cD ?_)))
               (case side4 => exact (rS HO566.out).2.1)
               rintro e w78 ⟨v568, rfl, ho0, hb⟩
               have HS0_ := (hb.cell (wL _ _ (hHeld.1))).trans (hHeld.1)
               have HS1_ := (hb.cell (wL _ _ (hHeld.2))).trans (hHeld.2)
               refine ⟨_, rfl, ?_⟩
               have n0_ := aM (rO (by apply_rules [HO_7.out, rN, rD]) hb); have n1_ := aM (rO (by apply_rules [HO543.out, rN, rD]) hb); have n2_ := aM (rO (by apply_rules [HO546.out, rN, rD]) hb); have n3_ := aM (Kd.V_below (by (with_reducible repeat (first | apply Kd.V_alloc | apply Kd.V_drewN | apply Kd.V_drew)); exact HO549.out) hb); have n4_ := aM (rO (by apply_rules [HO552.out, rN, rD]) hb); have n5_ := aM (rO (by apply_rules [HO555.out, rN, rD]) hb); have n6_ := aM (Kd.V_below (by (with_reducible repeat (first | apply Kd.V_alloc | apply Kd.V_drewN | apply Kd.V_drew)); exact HO558.out) hb); have n7_ := aM (rO (by apply_rules [HO561.out, rN, rD]) hb); have n8_ := aM (rO (by apply_rules [HO566.out, rN, rD]) hb); have n9_ := aM (Kd.V_lower (Kd.V_mono (ok' := fun k_ => some k_ ≠ (.slice (some ad562) t531.length co12 : Value).ownBlock ∧ some k_ ≠ (.slice Ao65 t541.length co65 : Value).ownBlock ∧ some k_ ≠ (.slice Ao66 t544.length co66 : Value).ownBlock ∧ some k_ ≠ (.slice Ao71 t550.length co71 : Value).ownBlock ∧ some k_ ≠ (.slice Ao72 t553.length co72 : Value).ownBlock ∧ some k_ ≠ (.slice Ao76 t559.length co76 : Value).ownBlock ∧ some k_ ≠ (.slice Ao77 t564.length co77 : Value).ownBlock) ho0 (fun k_ hk_ => ⟨(Kd.fresh' (rL (by apply_rules [HO_7.out, rN, rD])) k_ hk_), (Kd.fresh' (rL (by apply_rules [HO543.out, rN, rD])) k_ hk_), (Kd.fresh' (rL (by apply_rules [HO546.out, rN, rD])) k_ hk_), (Kd.fresh' (rL (by apply_rules [HO552.out, rN, rD])) k_ hk_), (Kd.fresh' (rL (by apply_rules [HO555.out, rN, rD])) k_ hk_), (Kd.fresh' (rL (by apply_rules [HO561.out, rN, rD])) k_ hk_), (Kd.fresh' (rL (by apply_rules [HO566.out, rN, rD])) k_ hk_)⟩)) (bZ (by apply_rules [HB.out, bA, pN, bD]))); have n10_ := aM (bS (by apply_rules [HB.out, bA, pN, bD]) hb); clear HO_7 HO543 HO546 HO549 HO552 HO555 HO558 HO561 HO566 HB; have HO_7 := n0_; have HO543 := n1_; have HO546 := n2_; have HO549 := n3_; have HO552 := n4_; have HO555 := n5_; have HO558 := n6_; have HO561 := n7_; have HO566 := n8_; have HO569 := n9_; have HB := n10_; clear n0_ n1_ n2_ n3_ n4_ n5_ n6_ n7_ n8_ n9_ n10_
               (try clear hb)
               (try clear hb2)
               (try clear hk)
               (try clear hi)
               (try clear ho0)
               obtain ⟨Ao79, co79, eo79⟩ := Kd.V_slice HO558.out
               (first | subst eo79 | (injection eo79 with f1_ f2_ f3_; have f4_ := f1_.symm; have f5_ := f3_.symm; clear f1_ f2_ f3_; subst f4_; subst f5_))
               obtain ⟨Ao80, co80, eo80⟩ := Kd.V_slice HO569.out
               (first | subst eo80 | (injection eo80 with f1_ f2_ f3_; have f4_ := f1_.symm; have f5_ := f3_.symm; clear f1_ f2_ f3_; subst f4_; subst f5_))
               refine hK.out _ _ ⟨HS0_, HS1_⟩ (fun hHeld => ?_)
               clear hK K
               refine norm_ (a' := ?_) ?_ ?_
               rotate_left
               ·show Act.put _ (some 94) _ = _
                simp only [Act.put, sI, sZ, sS, i64_w]
                rfl
               refine one_ (i := 17) (N := some 95) #[true, true, true, true, true, true, true, true, true, true, true, true, true, true, true, true, true, true, false] rfl rfl (one_of HT_.out (by kernel_rfl)) (by decide) (fun K hK => ?_)
               refine goes_ Try.func8 (by kernel_rfl) rfl #[.slice Ao79 t556.length co79, .slice Ao80 t567.length co80] (by rfl) rfl rfl (by (try simp only [mA, mC, mN]); first | done | rfl | (simp only [lD, lT]; rfl)) ?_
               with_reducible refine (dynamometerref0_Add.calls k4 _ _ t556 _ _ t567 t570 _ ?side1 ?side2 ?side3 ?side4 A39.out).mono ?_
               (case side1 => repeat (first | exact (Kd.V_reads' HO558.out).2.2 | (with_reducible refine cA ?_ _) | (with_reducible refine cN ?_ _) | (with_reducible refine cD ?_)))
               (case side2 => exact (Kd.V_reads' HO558.out).2.1)
               (case side3 => repeat (first | exact (Kd.V_reads' HO569.out).2.2 | (with_reducible refine cA ?_ _) | (with_reducible refine cN ?_ _) | (with_reducible refine cD ?_)))
               (case side4 => exact (Kd.V_reads' HO569.out).2.1)
               rintro e w81 ⟨v571, rfl, ho0, hb⟩
               have HS0_ := (hb.cell (wL _ _ (hHeld.1))).trans (hHeld.1)
               have HS1_ := (hb.cell (wL _ _ (hHeld.2))).trans (hHeld.2)
               refine ⟨_, rfl, ?_⟩
               have n0_ := aM (rE (by apply_rules [HO_7.out, rN, rD]) (rB ho0) hb); have n1_ := aM (rE (by apply_rules [HO543.out, rN, rD]) (rB ho0) hb); have n2_ := aM (rE (by apply_rules [HO546.out, rN, rD]) (rB ho0) hb); have n3_ := aM (Kd.V_elder' (by (with_reducible repeat (first | apply Kd.V_alloc | apply Kd.V_drewN | apply Kd.V_drew)); exact HO549.out) (rB ho0) hb); have n4_ := aM (rE (by apply_rules [HO552.out, rN, rD]) (rB ho0) hb); have n5_ := aM (rE (by apply_rules [HO555.out, rN, rD]) (rB ho0) hb); have n6_ := aM (Kd.V_elder' (by (with_reducible repeat (first | apply Kd.V_alloc | apply Kd.V_drewN | apply Kd.V_drew)); exact HO558.out) (rB ho0) hb); have n7_ := aM (rE (by apply_rules [HO561.out, rN, rD]) (rB ho0) hb); have n8_ := aM (rE (by apply_rules [HO566.out, rN, rD]) (rB ho0) hb); have n9_ := aM (Kd.V_elder' (by (with_reducible repeat (first | apply Kd.V_alloc | apply Kd.V_drewN | apply Kd.V_drew)); exact HO569.out) (rB ho0) hb); have n10_ := aM (Kd.R_lower (rW (rW (rW (rW (rW (rW (rW ho0 (rL (by apply_rules [HO_7.out, rN, rD]))) (rL (by apply_rules [HO543.out, rN, rD]))) (rL (by apply_rules [HO546.out, rN, rD]))) (rL (by apply_rules [HO552.out, rN, rD]))) (rL (by apply_rules [HO555.out, rN, rD]))) (rL (by apply_rules [HO561.out, rN, rD]))) (rL (by apply_rules [HO566.out, rN, rD]))) (bZ (by apply_rules [HB.out, bA, pN, bD]))); have n11_ := aM (bS (by apply_rules [HB.out, bA, pN, bD]) hb); clear HO_7 HO543 HO546 HO549 HO552 HO555 HO558 HO561 HO566 HO569 HB; have HO_7 := n0_; have HO543 := n1_; have HO546 := n2_; have HO549 := n3_; have HO552 := n4_; have HO555 := n5_; have HO558 := n6_; have HO561 := n7_; have HO566 := n8_; have HO569 := n9_; have HO572 := n10_; have HB := n11_; clear n0_ n1_ n2_ n3_ n4_ n5_ n6_ n7_ n8_ n9_ n10_ n11_
               (try clear hb)
               (try clear hb2)
               (try clear hk)
               (try clear hi)
               (try clear ho0)
               refine hK.out _ _ ⟨HS0_, HS1_⟩ (fun hHeld => ?_)
               clear hK K
               refine norm_ (a' := ?_) ?_ ?_
               rotate_left
               ·show Act.put _ (some 95) _ = _
                simp only [Act.put, sI, sZ, sS, i64_w]
                rfl
               refine pure_ (i := 18) (N := some 12) (v := ?_) (a' := ?_) #[true, true, true, true, true, true, true, true, true, true, true, true, true, true, true, true, true, true, true] rfl rfl (any_of HT_.out (by kernel_rfl)) (fun _ _ _ h => h) (Or.inl ⟨by rfl, ?_⟩) ?_ ?_
               rotate_left
               ·intro w'
                go_simp
                with_reducible rfl
               rotate_left
               ·simp only [Act.put, sI, sZ, sS, i64_w]
                rfl
               refine done_ (done_of HT_.out (by kernel_rfl)) ?_
               obtain ⟨Ao82, co82, eo82⟩ := Kd.V_slice HO549.out
               subst eo82
               obtain ⟨Ao83, co83, eo83⟩ := Kd.R_slice HO572.out
               subst eo83
               try go_wp2_with (first | ((with_reducible refine gC (f := 9) rfl ?_); refine gL (some 98) rfl rfl Try.func9 (by kernel_rfl) rfl #[.slice Ao82 t547.length co82, .slice Ao83 t570.length co83] rfl (by (try simp only [mA, mC, mN]); first | done | rfl | (simp only [lD, lT]; rfl)) ?_; (with_reducible refine (dynamometerref0_Cmp.calls k4 _ _ t547 _ _ t570 t573 _ ?side1 ?side2 ?side3 ?side4 A40.out).mono ?_); (case side1 => repeat (first | exact (Kd.V_reads' HO549.out).2.2 | (with_reducible refine cA ?_ _) | (with_reducible refine cN ?_ _) | (with_reducible refine cD ?_))); (case side2 => exact (Kd.V_reads' HO549.out).2.1); (case side3 => repeat (first | exact (rS HO572.out).2.2 | (with_reducible refine cA ?_ _) | (with_reducible refine cN ?_ _) | (with_reducible refine cD ?_))); (case side4 => exact (rS HO572.out).2.1); rintro e w' ⟨rfl, ⟨nd, rfl⟩⟩; refine ⟨_, rfl, ?_⟩))
               go_roundg k4
               case measure => have := HJ4.out; have := HK2.out; have := HJ13.out; have := HK4.out; omega
               case rel => exact ⟨(wrap64 (x10_4 + 1)), (by first | rfl | (simp; done) | (simp [*]; done)), H', ⟨by have := HJ4.out; have := HK2.out; have := HJ13.out; have := HK4.out; omega⟩, ⟨by (with_reducible repeat (first | apply rN | apply rD)); exact Kd.R_mono HO_7.out (fun _ hk => trivial)⟩, ⟨by apply_rules [HB.out, bA, pN, bD]⟩⟩
             ·rw [if_neg c26] at H
              have c26b0 : decide (x10_4 < (t531.length : Int)) = false := decide_eq_false c26
              clear c26; have H' := aM H; clear H
              go_wp2
              go_roundg k4
              case measure => have := HJ4.out; have := HK2.out; have := HJ13.out; have := HK4.out; omega
              case rel => exact ⟨(wrap64 (x9_2 + 1)), (by first | rfl | (simp; done) | (simp [*]; done)), H', ⟨by have := HJ4.out; have := HK2.out; have := HJ13.out; have := HK4.out; omega⟩, ⟨by apply_rules [HO_7.out, rN, rD]⟩, ⟨by apply_rules [HB.out, bA, pN, bD]⟩⟩
       ·rw [if_neg c13] at H
        have c13b0 : decide (x9_2 < (t531.length : Int)) = false := decide_eq_false c13
        clear c13
        replace H := oB H
        obtain ⟨t536, A840, H⟩ := H
        replace H : (some t536) = some r := H
        have A84 := aM A840; clear A840
        obtain rfl := Option.some.inj H
        go_wp2_with (first | ((with_reducible refine gC (f := 5) rfl ?_); refine gL (some 100) rfl rfl Try.func5 (by kernel_rfl) rfl #[] rfl (by (try simp only [mA, mC, mN]); first | done | rfl | (simp only [lD, lT]; rfl)) ?_; (with_reducible refine (dynamometerlaw7_even.calls k2  t536 _ A84.out).mono ?_); rintro e w85 ⟨rfl, hb⟩; refine ⟨_, rfl, ?_⟩; have n0_ := aM (rO (by apply_rules [HO_7.out, rN, rD]) hb); have n1_ := aM (bS (by apply_rules [HB.out, bA, pN, bD]) hb); clear HO_7 HB; have HO_7 := n0_; have HB := n1_; clear n0_ n1_; (try clear hb); (try clear hb2); (try clear hk); (try clear hi)))
        go_ret
        exact ⟨by first | rfl | (simp [errW_none, errW_some] <;> rfl) | (simp [*, errW_none, errW_some] <;> rfl), by apply_rules [HB.out, bA, pN, bD]⟩
    ·rw [if_neg c11] at H
     have c11b0 : ((t531.length : Int) == (l0.length : Int)) = false := beq_eq_false_iff_ne.mpr c11
     have c11b1 : ((t531.length : Int) != (l0.length : Int)) = true := bne_iff_ne.mpr c11
     have c11b2 : (t531.length == l0.length) = false := by first | simpa using c11 | (simp at c11 ⊢; omega)
     obtain rfl := Option.some.inj H
     obtain ⟨Ao86, co86, eo86⟩ := Kd.R_slice HO_7.out
     subst eo86
     go_wp2
     go_ret
     exact ⟨by first | rfl | (simp [errW_none, errW_some] <;> rfl) | (simp [*, errW_none, errW_some] <;> rfl), by apply_rules [HB.out, bA, pN, bD]⟩
def dynamometerlaw7_LoadAdmitKeepsTheLimit.Pure : Prop := ∀ (l0 : List Int) (a1 : Int) (a2 : Int), l0.length ≤ maxLen → l0.length * 8 ≤ 140737488351232 → (∀ x ∈ l0, (Lit.int .i64 x).wf = true) → (Lit.int .i64 a1).wf = true → (Lit.int .i64 a2).wf = true → ∃ k, dynamometerlaw7_LoadAdmitKeepsTheLimit.f k l0 a1 a2 = some true
theorem dynamometerlaw7_LoadAdmitKeepsTheLimit.walk (P : dynamometerlaw7_LoadAdmitKeepsTheLimit.Pure) (a0 : Option Addr) (len0 cap0 : Nat) (z0 : List Int) (a1 : Int) (a2 : Int) (w : World) (w0 : (a0 = none ∧ len0 = 0 ∧ cap0 = 0 ∧ z0 = []) ∨ ∃ x, a0 = some x ∧ len0 ≤ cap0 ∧ cap0 ≤ maxLen ∧ z0.length = cap0 ∧ (∀ i, i < z0.length → w.cell? (x.add i) = some (.int .i64 (z0.getD i 0))) ∧ ∀ n ∈ z0, (Lit.int .i64 n).wf = true) (y0 : len0 * 8 ≤ 140737488351232) (w1 : (Lit.int .i64 a1).wf = true) (w2 : (Lit.int .i64 a2).wf = true) :
  Calls Try.prog 3 #[.slice a0 len0 cap0, .int .i64 a1, .int .i64 a2] w fun e w' => e = .returned (.bool true) ∧ Below w.heap.size w w' := by
 obtain ⟨l0, rfl, hr0, hm0, hw0, hc0⟩ := ReadsInt.ofRowC w0
 obtain ⟨k, h⟩ := P l0 a1 a2 hm0 y0 hw0 w1 w2
 refine (dynamometerlaw7_LoadAdmitKeepsTheLimit.calls k _ _ l0 a1 a2 true w (Kd.C_of_reads (d := (0 : Int)) (h1 := fun _ => rfl) hr0) hc0 h).mono ?_
 rintro e w' ⟨rfl, hd⟩
 exact ⟨rfl, hd⟩
end Go.Proofs.Ytaoekkikpceccaa.QLoadAdmitKeepsTheLimit
