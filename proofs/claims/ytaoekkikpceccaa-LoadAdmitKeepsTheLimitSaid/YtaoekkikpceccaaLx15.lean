/- Lean functions that answer as Go functions of this seat do, each with its proof. Condition: the Lean function answers 'some'. -/
import Derived.Test.YtaoekkikpceccaaLx0
import Derived.Test.YtaoekkikpceccaaLx4
import Derived.Test.YtaoekkikpceccaaLx10
import Derived.Test.YtaoekkikpceccaaLx11
import Derived.Test.YtaoekkikpceccaaLx12
import Derived.Test.YtaoekkikpceccaaLx13
import Derived.Test.YtaoekkikpceccaaLx14
namespace Go.Proofs.Ytaoekkikpceccaa.QLoadAdmitKeepsTheLimit
open Go.RowKit Go.Proofs.YtaoekkikpceccaaW.PrintWords Go.Proofs.YtaoekkikpceccaaW.PrintLast Go.Proofs.YtaoekkikpceccaaW.PrintMore
attribute [local go_sem] max2_int min2_int max_two min_two
set_option linter.unusedVariables false
set_option maxHeartbeats 8000000
set_option maxRecDepth 100000
set_option linter.unusedSimpArgs false
mutual
def nat_DivMod.l0 : Nat → Int → List Int → List Int → List Int → Int → Option (List Int × List Int)
 | 0, _, _, _, _, _ => none
 | k + 1, x8, x9, x10, x11, x12 => if x12 ≥ 0 then ((nat_guess.f k x10 x9 x12).bind fun t382 => ((nat_take.f k x10 x9 x12 t382).bind fun bt383 => (if bt383.1 = true then (nat_DivMod.l1 k x8 x9 bt383.2 x11 x12 (IntKind.u64.wrap (t382 - 1))) else (if 0 ≤ x12 then (if x12 < (x11.length : Int) then (nat_DivMod.l0 k x8 x9 bt383.2 (x11.set (x12 : Int).toNat t382) (wrap64 (x12 - 1))) else (none)) else (none))))) else ((nat_cut.f k x11).bind fun t373 => ((nat_cut.f k x10).bind fun t376 => ((nat_Shr.f k t376 x8).bind fun t379 => (some (t373, t379)))))
def nat_DivMod.l1 : Nat → Int → List Int → List Int → List Int → Int → Int → Option (List Int × List Int)
 | 0, _, _, _, _, _, _ => none
 | k + 1, x8, x9, x10, x11, x12, x13 => (nat_give.f k x10 x9 x12).bind fun bt385 => (if bt385.1 = true then (if 0 ≤ x12 then (if x12 < (x11.length : Int) then (nat_DivMod.l0 k x8 x9 bt385.2 (x11.set (x12 : Int).toNat x13) (wrap64 (x12 - 1))) else (none)) else (none)) else (nat_DivMod.l1 k x8 x9 bt385.2 x11 x12 (IntKind.u64.wrap (x13 - 1))))
end
def nat_DivMod.f (k : Nat) (l0 : List Int) (l1 : List Int) : Option (List Int × List Int) := (nat_Cmp.f k l0 l1).bind fun t345 => (if t345 < 0 then (some (([] : List Int), l0)) else (if (l1.length : Int) = 1 then (if 0 < (l1.length : Int) then ((nat_small.f k l0 (rd l1 0)).bind fun bt347 => ((nat_cut.f k (([bt347.2] : List Int))).bind fun t354 => (some (bt347.1, t354)))) else (none)) else (if 0 ≤ (wrap64 ((l1.length : Int) - 1)) then (if (wrap64 ((l1.length : Int) - 1)) < (l1.length : Int) then ((bits_LeadingZeros64.f k (rd l1 (wrap64 ((l1.length : Int) - 1)))).bind fun t358 => ((nat_Shl.f k l1 t358).bind fun t359 => (if 0 ≤ (wrap64 ((l0.length : Int) + 1)) then (if (wrap64 ((l0.length : Int) + 1) : Int).toNat ≤ 35184372088832 then ((nat_Shl.f k l0 t358).bind fun t365 => (if 0 ≤ (wrap64 ((wrap64 ((l0.length : Int) - (l1.length : Int))) + 1)) then (if (wrap64 ((wrap64 ((l0.length : Int) - (l1.length : Int))) + 1) : Int).toNat ≤ 35184372088832 then (nat_DivMod.l0 k t358 t359 (cpy (List.replicate (wrap64 ((l0.length : Int) + 1) : Int).toNat 0) t365) (List.replicate (wrap64 ((wrap64 ((l0.length : Int) - (l1.length : Int))) + 1) : Int).toNat 0) (wrap64 ((l0.length : Int) - (l1.length : Int)))) else (none)) else (none))) else (none)) else (none)))) else (none)) else (none))))
theorem nat_DivMod.mono_l : ∀ k, (∀ y0 y1 y2 y3 y4, LeO (nat_DivMod.l0 k y0 y1 y2 y3 y4) (nat_DivMod.l0 (k + 1) y0 y1 y2 y3 y4)) ∧ (∀ y0 y1 y2 y3 y4 y5, LeO (nat_DivMod.l1 k y0 y1 y2 y3 y4 y5) (nat_DivMod.l1 (k + 1) y0 y1 y2 y3 y4 y5))
 | 0 => ⟨fun _ _ _ _ _ r h => by simp [nat_DivMod.l0] at h, fun _ _ _ _ _ _ r h => by simp [nat_DivMod.l1] at h⟩
 | k + 1 => by
  obtain ⟨ih0, ih1⟩ := nat_DivMod.mono_l k
  refine ⟨?_, ?_⟩
  ·intro y0 y1 y2 y3 y4
   unfold nat_DivMod.l0
   repeat' first
   | (with_reducible exact ih0 _ _ _ _ _)
   | (with_reducible exact ih1 _ _ _ _ _ _)
   | (with_reducible exact bits_LeadingZeros64.mono _ _)
   | (with_reducible exact nat_Cmp.mono _ _ _)
   | (with_reducible exact nat_Shl.mono _ _ _)
   | (with_reducible exact nat_Shr.mono _ _ _)
   | (with_reducible exact nat_cut.mono _ _)
   | (with_reducible exact nat_give.mono _ _ _ _)
   | (with_reducible exact nat_guess.mono _ _ _ _)
   | (with_reducible exact nat_small.mono _ _ _)
   | (with_reducible exact nat_take.mono _ _ _ _ _)
   | (with_reducible exact LeO.refl _)
   | (with_reducible exact LeO.none _)
   | (with_reducible refine LeO.ite ?_ ?_)
   | (with_reducible refine LeO.bind ?_ (fun _ => ?_))
  ·intro y0 y1 y2 y3 y4 y5
   unfold nat_DivMod.l1
   repeat' first
   | (with_reducible exact ih0 _ _ _ _ _)
   | (with_reducible exact ih1 _ _ _ _ _ _)
   | (with_reducible exact bits_LeadingZeros64.mono _ _)
   | (with_reducible exact nat_Cmp.mono _ _ _)
   | (with_reducible exact nat_Shl.mono _ _ _)
   | (with_reducible exact nat_Shr.mono _ _ _)
   | (with_reducible exact nat_cut.mono _ _)
   | (with_reducible exact nat_give.mono _ _ _ _)
   | (with_reducible exact nat_guess.mono _ _ _ _)
   | (with_reducible exact nat_small.mono _ _ _)
   | (with_reducible exact nat_take.mono _ _ _ _ _)
   | (with_reducible exact LeO.refl _)
   | (with_reducible exact LeO.none _)
   | (with_reducible refine LeO.ite ?_ ?_)
   | (with_reducible refine LeO.bind ?_ (fun _ => ?_))
theorem nat_DivMod.mono : ∀ a0 a1 k, LeO (nat_DivMod.f k a0 a1) (nat_DivMod.f (k + 1) a0 a1) := by
 intro a0 a1 k
 obtain ⟨ih0, ih1⟩ := nat_DivMod.mono_l k
 unfold nat_DivMod.f
 repeat' first
   | (with_reducible exact ih0 _ _ _ _ _)
   | (with_reducible exact ih1 _ _ _ _ _ _)
   | (with_reducible exact bits_LeadingZeros64.mono _ _)
   | (with_reducible exact nat_Cmp.mono _ _ _)
   | (with_reducible exact nat_Shl.mono _ _ _)
   | (with_reducible exact nat_Shr.mono _ _ _)
   | (with_reducible exact nat_cut.mono _ _)
   | (with_reducible exact nat_give.mono _ _ _ _)
   | (with_reducible exact nat_guess.mono _ _ _ _)
   | (with_reducible exact nat_small.mono _ _ _)
   | (with_reducible exact nat_take.mono _ _ _ _ _)
   | (with_reducible exact LeO.refl _)
   | (with_reducible exact LeO.none _)
   | (with_reducible refine LeO.ite ?_ ?_)
   | (with_reducible refine LeO.bind ?_ (fun _ => ?_))
theorem nat_DivMod.calls (k : Nat) (P0_ : Nat → Prop) (A0 : Option Addr) (c0 : Nat) (l0 : List Int) (A1 : Option Addr) (c1 : Nat) (l1 : List Int) (r1 : List Int) (r2 : List Int) (w : World) (hs0 : Kd.V (Kd.int .u64) 65 w w.heap.size (fun k_ => P0_ k_) (.slice A0 l0.length c0) l0) (hr1 : Kd.C (Kd.int .u64) w A1 l1.length l1) (hc1 : l1.length ≤ c1) (h : nat_DivMod.f k l0 l1 = some (r1, r2)) :
  Calls Try.prog 23 #[.slice A0 l0.length c0, .slice A1 l1.length c1] w fun e w' => ∃ v0_ v1_ : Value, e = .returned (.tuple #[v0_, v1_]) ∧ Kd.R (Kd.int .u64) 65 w' w.heap.size (fun k_ => (w.heap.size ≤ k_)) v0_ r1 ∧ Kd.V (Kd.int .u64) 65 w' w.heap.size (fun k_ => (P0_ k_ ∨ w.heap.size ≤ k_) ∧ some k_ ≠ (v0_ : Value).ownBlock) v1_ r2 ∧ Below w.heap.size w w' := by
 have HO0 := aM (show Kd.V (Kd.int .u64) 65 w w.heap.size (fun k_ => (P0_ k_ ∨ w.heap.size ≤ k_)) (.slice A0 l0.length c0) l0 from Kd.V_mono hs0 (fun k_ hk => .inl hk))
 have HR1 := aM hr1
 have HC1 := aM hc1
 clear hr1 hc1
 have HB := aM (Below.refl w.heap.size w)
 have H : ((nat_Cmp.f k l0 l1).bind fun t345 => (if t345 < 0 then (some (([] : List Int), l0)) else (if (l1.length : Int) = 1 then (if 0 < (l1.length : Int) then ((nat_small.f k l0 (rd l1 0)).bind fun bt347 => ((nat_cut.f k (([bt347.2] : List Int))).bind fun t354 => (some (bt347.1, t354)))) else (none)) else (if 0 ≤ (wrap64 ((l1.length : Int) - 1)) then (if (wrap64 ((l1.length : Int) - 1)) < (l1.length : Int) then ((bits_LeadingZeros64.f k (rd l1 (wrap64 ((l1.length : Int) - 1)))).bind fun t358 => ((nat_Shl.f k l1 t358).bind fun t359 => (if 0 ≤ (wrap64 ((l0.length : Int) + 1)) then (if (wrap64 ((l0.length : Int) + 1) : Int).toNat ≤ 35184372088832 then ((nat_Shl.f k l0 t358).bind fun t365 => (if 0 ≤ (wrap64 ((wrap64 ((l0.length : Int) - (l1.length : Int))) + 1)) then (if (wrap64 ((wrap64 ((l0.length : Int) - (l1.length : Int))) + 1) : Int).toNat ≤ 35184372088832 then (nat_DivMod.l0 k t358 t359 (cpy (List.replicate (wrap64 ((l0.length : Int) + 1) : Int).toNat 0) t365) (List.replicate (wrap64 ((wrap64 ((l0.length : Int) - (l1.length : Int))) + 1) : Int).toNat 0) (wrap64 ((l0.length : Int) - (l1.length : Int)))) else (none)) else (none))) else (none)) else (none)))) else (none)) else (none))))) = some (r1, r2) := h
 clear h
 replace H := oB H
 obtain ⟨t345, A30, H⟩ := H
 replace H : (if t345 < 0 then (some (([] : List Int), l0)) else (if (l1.length : Int) = 1 then (if 0 < (l1.length : Int) then ((nat_small.f k l0 (rd l1 0)).bind fun bt347 => ((nat_cut.f k (([bt347.2] : List Int))).bind fun t354 => (some (bt347.1, t354)))) else (none)) else (if 0 ≤ (wrap64 ((l1.length : Int) - 1)) then (if (wrap64 ((l1.length : Int) - 1)) < (l1.length : Int) then ((bits_LeadingZeros64.f k (rd l1 (wrap64 ((l1.length : Int) - 1)))).bind fun t358 => ((nat_Shl.f k l1 t358).bind fun t359 => (if 0 ≤ (wrap64 ((l0.length : Int) + 1)) then (if (wrap64 ((l0.length : Int) + 1) : Int).toNat ≤ 35184372088832 then ((nat_Shl.f k l0 t358).bind fun t365 => (if 0 ≤ (wrap64 ((wrap64 ((l0.length : Int) - (l1.length : Int))) + 1)) then (if (wrap64 ((wrap64 ((l0.length : Int) - (l1.length : Int))) + 1) : Int).toNat ≤ 35184372088832 then (nat_DivMod.l0 k t358 t359 (cpy (List.replicate (wrap64 ((l0.length : Int) + 1) : Int).toNat 0) t365) (List.replicate (wrap64 ((wrap64 ((l0.length : Int) - (l1.length : Int))) + 1) : Int).toNat 0) (wrap64 ((l0.length : Int) - (l1.length : Int)))) else (none)) else (none))) else (none)) else (none)))) else (none)) else (none)))) = some (r1, r2) := H
 have A3 := aM A30; clear A30
 by_cases c4 : t345 < 0
 ·rw [if_pos c4] at H
  have c4b0 : decide (t345 < 0) = true := dT c4
  clear c4
  simp only [Option.some.injEq, Prod.mk.injEq] at H
  obtain ⟨rfl, rfl⟩ := H
  go_enter Try.func23, Try.ntmps23
  go_wp2_with (first | ((with_reducible refine gC (f := 33) rfl ?_); refine gL (some 16) rfl rfl Try.func33 (by kernel_rfl) rfl #[.slice A0 l0.length c0, .slice A1 l1.length c1] rfl (by (try simp only [mA, mC, mN]); first | done | rfl | (simp only [lD, lT]; rfl)) ?_; (with_reducible refine (nat_Cmp.calls k _ _ l0 _ _ l1 t345 _ ?side1 ?side2 ?side3 ?side4 A3.out).mono ?_); (case side1 => repeat (first | exact (Kd.V_reads' HO0.out).2.2 | (with_reducible refine cA ?_ _) | (with_reducible refine cN ?_ _) | (with_reducible refine cD ?_))); (case side2 => exact (Kd.V_reads' HO0.out).2.1); (case side3 => repeat (first | exact HR1.out | (with_reducible refine cA ?_ _) | (with_reducible refine cN ?_ _) | (with_reducible refine cD ?_))); (case side4 => exact HC1.out); rintro e w' ⟨rfl, ⟨nd, rfl⟩⟩; refine ⟨_, rfl, ?_⟩))
  go_ret2
  exact ⟨_, _, by first | rfl | (simp [errW_none, errW_some] <;> rfl) | (simp [*, errW_none, errW_some] <;> rfl), by first | exact Kd.R_nil _ _ _ _ _ | exact Kd.N_nil _ _ _ _ _ | exact Kd.V_nil _ _ _ _ _ | exact Kd.Q_nil _ _ _ _ _ | exact Kd.S_nil _ _ _ _ _, by (with_reducible repeat (first | apply Kd.V_alloc | apply Kd.V_drewN | apply Kd.V_drew)); exact Kd.V_mono HO0.out (fun _ hk => ⟨hk, (by simp [Value.ownBlock])⟩), by apply_rules [HB.out, bA, pN, bD]⟩
 ·rw [if_neg c4] at H
  have c4b0 : decide (t345 < 0) = false := decide_eq_false c4
  clear c4
  by_cases c5 : (l1.length : Int) = 1
  ·rw [if_pos c5] at H
   have c5b0 : ((l1.length : Int) == 1) = true := beq_iff_eq.mpr c5
   have c5b1 : ((l1.length : Int) != 1) = false := bne_eq_false_iff_eq.mpr c5
   clear c5
   by_cases c6 : 0 < (l1.length : Int)
   rotate_left
   ·rw [if_neg c6] at H; cases H
   rw [if_pos c6] at H
   have c6b0 : decide (0 < (l1.length : Int)) = true := dT c6
   have c6b1 : decide (0 < l1.length) = true := dT (by omega)
   clear c6
   replace H := oB H
   obtain ⟨⟨t347, t348⟩, A70, H⟩ := H
   replace H : ((nat_cut.f k (([t348] : List Int))).bind fun t354 => (some (t347, t354))) = some (r1, r2) := H
   have A7 := aM A70; clear A70
   obtain ⟨y351, hy351⟩ : ∃ y_ : List Int, y_ = (([t348] : List Int)) := ⟨_, rfl⟩
   replace H : ((nat_cut.f k y351).bind fun t354 => (some (t347, t354))) = some (r1, r2) := by first | (rw [hy351]; exact H) | exact H
   have Ny351 := aM hy351
   clear hy351
   replace H := oB H
   obtain ⟨t354, A80, H⟩ := H
   replace H : (some (t347, t354)) = some (r1, r2) := H
   have A8 := aM A80; clear A80
   simp only [Option.some.injEq, Prod.mk.injEq] at H
   obtain ⟨rfl, rfl⟩ := H
   go_enter Try.func23, Try.ntmps23
   go_wp2_with (first | ((with_reducible refine gC (f := 33) rfl ?_); refine gL (some 16) rfl rfl Try.func33 (by kernel_rfl) rfl #[.slice A0 l0.length c0, .slice A1 l1.length c1] rfl (by (try simp only [mA, mC, mN]); first | done | rfl | (simp only [lD, lT]; rfl)) ?_; (with_reducible refine (nat_Cmp.calls k _ _ l0 _ _ l1 t345 _ ?side1 ?side2 ?side3 ?side4 A3.out).mono ?_); (case side1 => repeat (first | exact (Kd.V_reads' HO0.out).2.2 | (with_reducible refine cA ?_ _) | (with_reducible refine cN ?_ _) | (with_reducible refine cD ?_))); (case side2 => exact (Kd.V_reads' HO0.out).2.1); (case side3 => repeat (first | exact HR1.out | (with_reducible refine cA ?_ _) | (with_reducible refine cN ?_ _) | (with_reducible refine cD ?_))); (case side4 => exact HC1.out); rintro e w' ⟨rfl, ⟨nd, rfl⟩⟩; refine ⟨_, rfl, ?_⟩; have p346 : 0 ≤ (0 : Int) := (by omega); have q346 : 0 < (l1.length : Int) := oD (by first | (with_reducible assumption) | assumption); obtain ⟨ad346, e346, hx346_0⟩ := Kd.at_int HR1.out 0 p346 q346; cases e346; have qi346 : (0 < l1.length) = True := eq_true (by omega); (try rw [show ((0 : Int)).toNat = 0 from rfl] at hx346_0); (try rw [Addr.add_zero'] at hx346_0); replace p346 := eq_true p346; replace q346 := eq_true q346) | ((with_reducible refine gC (f := 34) rfl ?_); refine gL (some 27) rfl rfl Try.func34 (by kernel_rfl) rfl #[.slice A0 l0.length c0, .int .u64 (rd l1 0)] rfl (by (try simp only [mA, mC, mN]); first | done | rfl | (simp only [lD, lT]; rfl)) ?_; (with_reducible refine (nat_small.calls k _ _ l0 (rd l1 0) t347 t348 _ ?side1 ?side2 A7.out).mono ?_); (case side1 => repeat (first | exact (Kd.V_reads' HO0.out).2.2 | (with_reducible refine cA ?_ _) | (with_reducible refine cN ?_ _) | (with_reducible refine cD ?_))); (case side2 => exact (Kd.V_reads' HO0.out).2.1); rintro e w9 ⟨v349, rfl, ho0, hb⟩; refine ⟨_, rfl, ?_⟩; have n0_ := aM (Kd.V_elder' (by (with_reducible repeat (first | apply Kd.V_alloc | apply Kd.V_drewN | apply Kd.V_drew)); exact HO0.out) (rB ho0) hb); have n1_ := aM (Kd.R_lower (Kd.R_newM (M := fun k_ => (w.heap.size ≤ k_)) ho0 (bZ (by apply_rules [HB.out, bA, pN, bD])) (fun k_ h_ => h_)) (bZ (by apply_rules [HB.out, bA, pN, bD]))); have n2_ := aM (bS (by apply_rules [HB.out, bA, pN, bD]) hb); clear HO0 HB; have HO0 := n0_; have HO350 := n1_; have HB := n2_; clear n0_ n1_ n2_; (try clear hb); (try clear hb2); (try clear hk); (try clear hi); (try clear ho0)) | ((with_reducible refine gate_dst (N := 32) rfl ?_); refine Kd.R_lit (Kd.int .u64) _ 65 ?hg (N := 32) ?hd (xs := ([t348] : List Int)) (inner := [.int .u64 t348]) (ok := fun _ => True) (okp := fun _ => True) ?hr ?hp (fun _ hk => hk) trivial (Below.refl _ _) (Nat.le_refl _) (by simp) ?_; (case hd => rfl); (case hg => rfl); (case hr => first | (go_simp; done) | (go_simp; rfl)); (case hp => exact (Reps.one (show Kd.M (Kd.int .u64) _ _ _ t348 [.int .u64 t348] from rfl) (Reps.none _ _))); intro v352 w10 ho11 hb hg_ hnew_; clear hg_ hnew_; (first | rw [← Ny351.out] at ho11 | (simp only [Int.reduceToNat] at ho11; rw [← Ny351.out] at ho11)); have n0_ := aM (Kd.V_elder' (by (with_reducible repeat (first | apply Kd.V_alloc | apply Kd.V_drewN | apply Kd.V_drew)); exact HO0.out) (rB ho11) hb); have n1_ := aM (rE (by apply_rules [HO350.out, rN, rD]) (rB ho11) hb); have n2_ := aM (Kd.R_lower (rW (Kd.R_newM (M := fun k_ => (w.heap.size ≤ k_)) ho11 (bZ (by apply_rules [HB.out, bA, pN, bD])) (fun k_ h_ => h_)) (rL (by apply_rules [HO350.out, rN, rD]))) (bZ (by apply_rules [HB.out, bA, pN, bD]))); have n3_ := aM (bS (by apply_rules [HB.out, bA, pN, bD]) hb); clear HO0 HO350 HB; have HO0 := n0_; have HO350 := n1_; have HO353 := n2_; have HB := n3_; clear n0_ n1_ n2_ n3_ hb ho11; obtain ⟨Ao12, co12, eo12⟩ := Kd.R_slice HO353.out; subst eo12) | ((with_reducible refine gC (f := 29) rfl ?_); refine gL (some 33) rfl rfl Try.func29 (by kernel_rfl) rfl #[.slice Ao12 y351.length co12] rfl (by (try simp only [mA, mC, mN]); first | done | rfl | (simp only [lD, lT]; rfl)) ?_; (with_reducible refine (nat_cut.calls k (fun k_ => some k_ = (.slice Ao12 y351.length co12 : Value).ownBlock) (.slice Ao12 y351.length co12) y351 t354 w _ ?side1 ?side2 A8.out).mono ?_); (case side1 => repeat (first | (with_reducible first | exact HB.out | apply bA | apply pN | apply bD) | exact HB.out)); (case side2 => exact Kd.R_tight rfl HO353.out); rintro e w13 ⟨v355, rfl, ho0, hb, hkp⟩; refine ⟨_, rfl, ?_⟩; have n0_ := aM (Kd.V_mono (ok' := fun k_ => (P0_ k_ ∨ w.heap.size ≤ k_) ∧ some k_ ≠ (v349 : Value).ownBlock ∧ some k_ ≠ (v355 : Value).ownBlock) (Kd.V_keptB (e := 65) (base := w.heap.size) (HO0.out) hkp (fun k_ hk_ hs_ => (hk_.2) hs_)) (fun k_ hk_ => ⟨hk_.1.1.1, hk_.1.1.2, fun e_ => Or.elim (ho0.1 k_ e_.symm) (fun hs_ => hk_.2.1 hs_) (fun hn_ => Nat.not_le.2 hk_.2.2 hn_)⟩)); have n1_ := aM (Kd.R_mono (ok' := fun k_ => (w.heap.size ≤ k_) ∧ some k_ ≠ (v355 : Value).ownBlock) (Kd.R_keptB (HO350.out) hkp (fun k_ hk_ hs_ => (hk_.2) hs_)) (fun k_ hk_ => ⟨hk_.1.1.1, fun e_ => Or.elim (ho0.1 k_ e_.symm) (fun hs_ => hk_.2.1 hs_) (fun hn_ => Nat.not_le.2 hk_.2.2 hn_)⟩)); have n2_ := aM (Kd.R_mono (ok' := fun k_ => (w.heap.size ≤ k_) ∧ some k_ ≠ (v349 : Value).ownBlock) ho0 (fun k_ hk_ => ⟨Or.elim hk_ (fun hs_ => (HO353.out.1 k_ (hs_).symm).1.1) (fun hn_ => (Nat.le_trans (bZ (by apply_rules [HB.out, bA, pN, bD])) hn_)), Or.elim hk_ (fun hs_ => fun e_ => (((HO350.out).1 k_ e_.symm).2) hs_) (fun hn_ => (Kd.fresh' (rL (by apply_rules [HO350.out, rN, rD])) k_ hn_))⟩)); have n3_ := aM (hb); clear HO0 HO350 HB HO353; have HO0 := n0_; have HO350 := n1_; have HO356 := n2_; have HB := n3_; clear n0_ n1_ n2_ n3_; (try clear hb); (try clear hkp); (try clear ho0)))
   go_ret2
   exact ⟨_, _, by first | rfl | (simp [errW_none, errW_some] <;> rfl) | (simp [*, errW_none, errW_some] <;> rfl), by (with_reducible repeat (first | apply rN | apply rD)); exact Kd.R_mono HO350.out (fun _ hk => hk.1), Kd.V_mono (Kd.R_V (by apply_rules [HO356.out, rN, rD])) (fun k_ hk => by first | exact ⟨(.inr (hk.1)), hk.2⟩ | exact (.inr (hk))), by apply_rules [HB.out, bA, pN, bD]⟩
  ·rw [if_neg c5] at H
   have c5b0 : ((l1.length : Int) == 1) = false := beq_eq_false_iff_ne.mpr c5
   have c5b1 : ((l1.length : Int) != 1) = true := bne_iff_ne.mpr c5
   obtain ⟨ji14, hji14⟩ : ∃ j_ : Int, (wrap64 ((l1.length : Int) - 1)) = j_ := ⟨_, rfl⟩
   replace H : (if 0 ≤ (ji14) then (if (ji14) < (l1.length : Int) then ((bits_LeadingZeros64.f k (rd l1 (ji14))).bind fun t358 => ((nat_Shl.f k l1 t358).bind fun t359 => (if 0 ≤ (wrap64 ((l0.length : Int) + 1)) then (if (wrap64 ((l0.length : Int) + 1) : Int).toNat ≤ 35184372088832 then ((nat_Shl.f k l0 t358).bind fun t365 => (if 0 ≤ (wrap64 ((wrap64 ((l0.length : Int) - (l1.length : Int))) + 1)) then (if (wrap64 ((wrap64 ((l0.length : Int) - (l1.length : Int))) + 1) : Int).toNat ≤ 35184372088832 then (nat_DivMod.l0 k t358 t359 (cpy (List.replicate (wrap64 ((l0.length : Int) + 1) : Int).toNat 0) t365) (List.replicate (wrap64 ((wrap64 ((l0.length : Int) - (l1.length : Int))) + 1) : Int).toNat 0) (wrap64 ((l0.length : Int) - (l1.length : Int)))) else (none)) else (none))) else (none)) else (none)))) else (none)) else (none)) = some (r1, r2) := by first | (rw [hji14] at H; exact H) | (simp only [hji14] at H ⊢; exact H)
   (try rw [hji14] at A3)
   have hji14w : (IntKind.i64.wrap ((l1.length : Int) - 1)) = ji14 := (i64_w _).trans hji14
   by_cases c15 : 0 ≤ (ji14)
   rotate_left
   ·rw [if_neg c15] at H; cases H
   rw [if_pos c15] at H
   have c15b0 : decide (0 ≤ (ji14)) = true := dT c15
   clear c15
   by_cases c16 : (ji14) < (l1.length : Int)
   rotate_left
   ·rw [if_neg c16] at H; cases H
   rw [if_pos c16] at H
   have c16b0 : decide ((ji14) < (l1.length : Int)) = true := dT c16
   clear c16
   replace H := oB H
   obtain ⟨t358, A170, H⟩ := H
   replace H : ((nat_Shl.f k l1 t358).bind fun t359 => (if 0 ≤ (wrap64 ((l0.length : Int) + 1)) then (if (wrap64 ((l0.length : Int) + 1) : Int).toNat ≤ 35184372088832 then ((nat_Shl.f k l0 t358).bind fun t365 => (if 0 ≤ (wrap64 ((wrap64 ((l0.length : Int) - (l1.length : Int))) + 1)) then (if (wrap64 ((wrap64 ((l0.length : Int) - (l1.length : Int))) + 1) : Int).toNat ≤ 35184372088832 then (nat_DivMod.l0 k t358 t359 (cpy (List.replicate (wrap64 ((l0.length : Int) + 1) : Int).toNat 0) t365) (List.replicate (wrap64 ((wrap64 ((l0.length : Int) - (l1.length : Int))) + 1) : Int).toNat 0) (wrap64 ((l0.length : Int) - (l1.length : Int)))) else (none)) else (none))) else (none)) else (none))) = some (r1, r2) := H
   have A17 := aM A170; clear A170
   replace H := oB H
   obtain ⟨t359, A180, H⟩ := H
   replace H : (if 0 ≤ (wrap64 ((l0.length : Int) + 1)) then (if (wrap64 ((l0.length : Int) + 1) : Int).toNat ≤ 35184372088832 then ((nat_Shl.f k l0 t358).bind fun t365 => (if 0 ≤ (wrap64 ((wrap64 ((l0.length : Int) - (l1.length : Int))) + 1)) then (if (wrap64 ((wrap64 ((l0.length : Int) - (l1.length : Int))) + 1) : Int).toNat ≤ 35184372088832 then (nat_DivMod.l0 k t358 t359 (cpy (List.replicate (wrap64 ((l0.length : Int) + 1) : Int).toNat 0) t365) (List.replicate (wrap64 ((wrap64 ((l0.length : Int) - (l1.length : Int))) + 1) : Int).toNat 0) (wrap64 ((l0.length : Int) - (l1.length : Int)))) else (none)) else (none))) else (none)) else (none)) = some (r1, r2) := H
   have A18 := aM A180; clear A180
   obtain ⟨ji19, hji19⟩ : ∃ j_ : Int, (wrap64 ((l0.length : Int) + 1)) = j_ := ⟨_, rfl⟩
   replace H : (if 0 ≤ (ji19) then (if (ji19 : Int).toNat ≤ 35184372088832 then ((nat_Shl.f k l0 t358).bind fun t365 => (if 0 ≤ (wrap64 ((wrap64 ((l0.length : Int) - (l1.length : Int))) + 1)) then (if (wrap64 ((wrap64 ((l0.length : Int) - (l1.length : Int))) + 1) : Int).toNat ≤ 35184372088832 then (nat_DivMod.l0 k t358 t359 (cpy (List.replicate (ji19 : Int).toNat 0) t365) (List.replicate (wrap64 ((wrap64 ((l0.length : Int) - (l1.length : Int))) + 1) : Int).toNat 0) (wrap64 ((l0.length : Int) - (l1.length : Int)))) else (none)) else (none))) else (none)) else (none)) = some (r1, r2) := by first | (rw [hji19] at H; exact H) | (simp only [hji19] at H ⊢; exact H)
   (try rw [hji19] at A3)
   (try rw [hji19] at A17)
   (try rw [hji19] at A18)
   have hji19w : (IntKind.i64.wrap ((l0.length : Int) + 1)) = ji19 := (i64_w _).trans hji19
   by_cases c20 : 0 ≤ (ji19)
   rotate_left
   ·rw [if_neg c20] at H; cases H
   rw [if_pos c20] at H
   have c20b0 := eq_true c20
   have c20b1 : decide (0 ≤ (ji19)) = true := dT c20
   clear c20
   by_cases c21 : (ji19 : Int).toNat ≤ 35184372088832
   rotate_left
   ·rw [if_neg c21] at H; cases H
   rw [if_pos c21] at H
   have c21b0 := eq_true c21
   have c21b1 : decide ((ji19 : Int).toNat ≤ 35184372088832) = true := dT c21
   clear c21
   obtain ⟨y362, hy362⟩ : ∃ y_ : List Int, y_ = (List.replicate (ji19 : Int).toNat 0) := ⟨_, rfl⟩
   replace H : ((nat_Shl.f k l0 t358).bind fun t365 => (if 0 ≤ (wrap64 ((wrap64 ((l0.length : Int) - (l1.length : Int))) + 1)) then (if (wrap64 ((wrap64 ((l0.length : Int) - (l1.length : Int))) + 1) : Int).toNat ≤ 35184372088832 then (nat_DivMod.l0 k t358 t359 (cpy y362 t365) (List.replicate (wrap64 ((wrap64 ((l0.length : Int) - (l1.length : Int))) + 1) : Int).toNat 0) (wrap64 ((l0.length : Int) - (l1.length : Int)))) else (none)) else (none))) = some (r1, r2) := by first | (rw [hy362]; exact H) | exact H
   have Ny362 := aM hy362
   clear hy362
   replace H := oB H
   obtain ⟨t365, A220, H⟩ := H
   replace H : (if 0 ≤ (wrap64 ((wrap64 ((l0.length : Int) - (l1.length : Int))) + 1)) then (if (wrap64 ((wrap64 ((l0.length : Int) - (l1.length : Int))) + 1) : Int).toNat ≤ 35184372088832 then (nat_DivMod.l0 k t358 t359 (cpy y362 t365) (List.replicate (wrap64 ((wrap64 ((l0.length : Int) - (l1.length : Int))) + 1) : Int).toNat 0) (wrap64 ((l0.length : Int) - (l1.length : Int)))) else (none)) else (none)) = some (r1, r2) := H
   have A22 := aM A220; clear A220
   obtain ⟨y368, hy368⟩ : ∃ y_ : List Int, y_ = (cpy y362 t365) := ⟨_, rfl⟩
   replace H : (if 0 ≤ (wrap64 ((wrap64 ((l0.length : Int) - (l1.length : Int))) + 1)) then (if (wrap64 ((wrap64 ((l0.length : Int) - (l1.length : Int))) + 1) : Int).toNat ≤ 35184372088832 then (nat_DivMod.l0 k t358 t359 y368 (List.replicate (wrap64 ((wrap64 ((l0.length : Int) - (l1.length : Int))) + 1) : Int).toNat 0) (wrap64 ((l0.length : Int) - (l1.length : Int)))) else (none)) else (none)) = some (r1, r2) := by first | (rw [hy368]; exact H) | exact H
   have Ny368 := aM hy368
   clear hy368
   obtain ⟨ji23, hji23⟩ : ∃ j_ : Int, (wrap64 ((wrap64 ((l0.length : Int) - (l1.length : Int))) + 1)) = j_ := ⟨_, rfl⟩
   replace H : (if 0 ≤ (ji23) then (if (ji23 : Int).toNat ≤ 35184372088832 then (nat_DivMod.l0 k t358 t359 y368 (List.replicate (ji23 : Int).toNat 0) (wrap64 ((l0.length : Int) - (l1.length : Int)))) else (none)) else (none)) = some (r1, r2) := by first | (rw [hji23] at H; exact H) | (simp only [hji23] at H ⊢; exact H)
   (try rw [hji23] at A3)
   (try rw [hji23] at A17)
   (try rw [hji23] at A18)
   (try rw [hji23] at A22)
   have hji23w : (IntKind.i64.wrap ((wrap64 ((l0.length : Int) - (l1.length : Int))) + 1)) = ji23 := (i64_w _).trans hji23
   by_cases c24 : 0 ≤ (ji23)
   rotate_left
   ·rw [if_neg c24] at H; cases H
   rw [if_pos c24] at H
   have c24b0 := eq_true c24
   have c24b1 : decide (0 ≤ (ji23)) = true := dT c24
   clear c24
   by_cases c25 : (ji23 : Int).toNat ≤ 35184372088832
   rotate_left
   ·rw [if_neg c25] at H; cases H
   rw [if_pos c25] at H
   have c25b0 := eq_true c25
   have c25b1 : decide ((ji23 : Int).toNat ≤ 35184372088832) = true := dT c25
   clear c25
   obtain ⟨y370, hy370⟩ : ∃ y_ : List Int, y_ = (List.replicate (ji23 : Int).toNat 0) := ⟨_, rfl⟩
   replace H : (nat_DivMod.l0 k t358 t359 y368 y370 (wrap64 ((l0.length : Int) - (l1.length : Int)))) = some (r1, r2) := by first | (rw [hy370]; exact H) | exact H
   have Ny370 := aM hy370
   clear hy370; have H' := aM H; clear H
   go_enter Try.func23, Try.ntmps23
   go_wp2_with (first | ((with_reducible refine gC (f := 33) rfl ?_); refine gL (some 16) rfl rfl Try.func33 (by kernel_rfl) rfl #[.slice A0 l0.length c0, .slice A1 l1.length c1] rfl (by (try simp only [mA, mC, mN]); first | done | rfl | (simp only [lD, lT]; rfl)) ?_; (with_reducible refine (nat_Cmp.calls k _ _ l0 _ _ l1 t345 _ ?side1 ?side2 ?side3 ?side4 A3.out).mono ?_); (case side1 => repeat (first | exact (Kd.V_reads' HO0.out).2.2 | (with_reducible refine cA ?_ _) | (with_reducible refine cN ?_ _) | (with_reducible refine cD ?_))); (case side2 => exact (Kd.V_reads' HO0.out).2.1); (case side3 => repeat (first | exact HR1.out | (with_reducible refine cA ?_ _) | (with_reducible refine cN ?_ _) | (with_reducible refine cD ?_))); (case side4 => exact HC1.out); rintro e w' ⟨rfl, ⟨nd, rfl⟩⟩; refine ⟨_, rfl, ?_⟩; have p357 : 0 ≤ ((ji14) : Int) := oD (by first | (with_reducible assumption) | assumption); have q357 : (ji14) < (l1.length : Int) := oD (by first | (with_reducible assumption) | assumption); obtain ⟨ad357, e357, hx357_0⟩ := Kd.at_int HR1.out (ji14) p357 q357; cases e357; replace p357 := eq_true p357; replace q357 := eq_true q357) | ((with_reducible refine gC (f := 35) rfl ?_); refine gL (some 40) rfl rfl Try.func35 (by kernel_rfl) rfl #[.int .u64 (rd l1 (ji14))] rfl (by (try simp only [mA, mC, mN]); first | done | (simp only [hji14]; rfl) | rfl | (simp only [lD, lT]; rfl)) ?_; (with_reducible refine (bits_LeadingZeros64.calls k (rd l1 (ji14)) t358 _ A17.out).mono ?_); rintro e w' ⟨rfl, ⟨nd, rfl⟩⟩; refine ⟨_, rfl, ?_⟩) | ((with_reducible refine gC (f := 24) rfl ?_); refine gL (some 43) rfl rfl Try.func24 (by kernel_rfl) rfl #[.slice (some ad357) l1.length c1, .int .i64 t358] rfl (by (try simp only [mA, mC, mN]); first | done | rfl | (simp only [lD, lT]; rfl)) ?_; (with_reducible refine (nat_Shl.calls k _ _ l1 t358 t359 _ ?side1 ?side2 A18.out).mono ?_); (case side1 => repeat (first | exact HR1.out | (with_reducible refine cA ?_ _) | (with_reducible refine cN ?_ _) | (with_reducible refine cD ?_))); (case side2 => exact HC1.out); rintro e w26 ⟨v360, rfl, ho0, hb⟩; refine ⟨_, rfl, ?_⟩; have n0_ := aM (Kd.V_elder' (by (with_reducible repeat (first | apply Kd.V_alloc | apply Kd.V_drewN | apply Kd.V_drew)); exact HO0.out) (rB ho0) hb); have n1_ := aM (Kd.R_lower (Kd.R_newM (M := fun k_ => (w.heap.size ≤ k_)) ho0 (bZ (by apply_rules [HB.out, bA, pN, bD])) (fun k_ h_ => h_)) (bZ (by apply_rules [HB.out, bA, pN, bD]))); have n2_ := aM (bS (by apply_rules [HB.out, bA, pN, bD]) hb); clear HO0 HB; have HO0 := n0_; have HO361 := n1_; have HB := n2_; clear n0_ n1_ n2_; (try clear hb); (try clear hb2); (try clear hk); (try clear hi); (try clear ho0)) | ((with_reducible refine gate_dst (N := 47) rfl ?_); refine Kd.R_make (Kd.int .u64) _ 65 rfl (N := 47) rfl 53 _ _ rfl ji19 rfl rfl Try.underlying53 (.int .u64 0) 8 info65 rfl (by decide) (by omega) 0 (ok := fun _ => True) (okp := fun _ => True) rfl (fun _ hk => hk) trivial (oD (by first | (with_reducible assumption) | assumption)) (Nat.le_trans (Nat.mul_le_mul_right _ (oD (by first | (with_reducible assumption) | assumption) : ji19.toNat ≤ 35184372088832)) (by omega)) (Below.refl _ _) (Nat.le_refl _) ?_; intro v363 w27 ho28 hb hg_ hnew_; clear hg_ hnew_; (first | rw [← Ny362.out] at ho28 | (simp only [Int.reduceToNat] at ho28; rw [← Ny362.out] at ho28)); have n0_ := aM (Kd.V_elder' (by (with_reducible repeat (first | apply Kd.V_alloc | apply Kd.V_drewN | apply Kd.V_drew)); exact HO0.out) (rB ho28) hb); have n1_ := aM (rE (by apply_rules [HO361.out, rN, rD]) (rB ho28) hb); have n2_ := aM (Kd.R_lower (rW (Kd.R_newM (M := fun k_ => (w.heap.size ≤ k_)) ho28 (bZ (by apply_rules [HB.out, bA, pN, bD])) (fun k_ h_ => h_)) (rL (by apply_rules [HO361.out, rN, rD]))) (bZ (by apply_rules [HB.out, bA, pN, bD]))); have n3_ := aM (bS (by apply_rules [HB.out, bA, pN, bD]) hb); clear HO0 HO361 HB; have HO0 := n0_; have HO361 := n1_; have HO364 := n2_; have HB := n3_; clear n0_ n1_ n2_ n3_ hb ho28) | ((with_reducible refine gC (f := 24) rfl ?_); refine gL (some 51) rfl rfl Try.func24 (by kernel_rfl) rfl #[.slice A0 l0.length c0, .int .i64 t358] rfl (by (try simp only [mA, mC, mN]); first | done | rfl | (simp only [lD, lT]; rfl)) ?_; (with_reducible refine (nat_Shl.calls k _ _ l0 t358 t365 _ ?side1 ?side2 A22.out).mono ?_); (case side1 => repeat (first | exact (Kd.V_reads' HO0.out).2.2 | (with_reducible refine cA ?_ _) | (with_reducible refine cN ?_ _) | (with_reducible refine cD ?_))); (case side2 => exact (Kd.V_reads' HO0.out).2.1); rintro e w29 ⟨v366, rfl, ho0, hb⟩; refine ⟨_, rfl, ?_⟩; have n0_ := aM (Kd.V_elder' (by (with_reducible repeat (first | apply Kd.V_alloc | apply Kd.V_drewN | apply Kd.V_drew)); exact HO0.out) (rB ho0) hb); have n1_ := aM (rE (by apply_rules [HO361.out, rN, rD]) (rB ho0) hb); have n2_ := aM (rE (by apply_rules [HO364.out, rN, rD]) (rB ho0) hb); have n3_ := aM (Kd.R_lower (rW (rW (Kd.R_newM (M := fun k_ => (w.heap.size ≤ k_)) ho0 (bZ (by apply_rules [HB.out, bA, pN, bD])) (fun k_ h_ => h_)) (rL (by apply_rules [HO361.out, rN, rD]))) (rL (by apply_rules [HO364.out, rN, rD]))) (bZ (by apply_rules [HB.out, bA, pN, bD]))); have n4_ := aM (bS (by apply_rules [HB.out, bA, pN, bD]) hb); clear HO0 HO361 HO364 HB; have HO0 := n0_; have HO361 := n1_; have HO364 := n2_; have HO367 := n3_; have HB := n4_; clear n0_ n1_ n2_ n3_ n4_; (try clear hb); (try clear hb2); (try clear hk); (try clear hi); (try clear ho0); obtain ⟨Ao31, co31, eo31⟩ := Kd.R_slice HO367.out; subst eo31) | ((with_reducible refine gate_builtin (b := .copy) (xs := #[.tmp 48, .tmp 51]) rfl ?_); refine Kd.R_copy (enc := (Value.int .u64)) (h1 := fun _ => rfl) (0) (w0 := w) w.heap.size rfl (.tmp 48) (.tmp 51) 53 53 65 rfl Try.underlying53 (by kernel_rfl) v363 y362 t365 _ _ _ (fun k_ => (w.heap.size ≤ k_) ∧ some k_ ≠ (v360 : Value).ownBlock ∧ some k_ ≠ (.slice Ao31 t365.length co31 : Value).ownBlock) rfl rfl ?aO ?aR ?aB ?aS ?_; (case aR => repeat (first | exact (rS HO367.out).2.2 | (with_reducible refine cA ?_ _) | (with_reducible refine cN ?_ _) | (with_reducible refine cD ?_))); (case aB => exact (by apply_rules [HB.out, bA, pN, bD])); (case aO => exact (by (with_reducible repeat (first | apply rN | apply rD)); exact Kd.R_mono HO364.out (fun _ hk => ⟨hk.1.1.1, ⟨hk.1.2, hk.2⟩⟩))); (case aS => exact (bZ (by apply_rules [HB.out, bA, pN, bD]))); intro w30 ho hb hg; have hat := (Or.inl rfl : (v363 : Value).ownBlock = (v363 : Value).ownBlock ∨ ∃ b, (v363 : Value).ownBlock = some b ∧ w29.heap.size ≤ b); change Kd.R (Kd.int .u64) 65 w30 w.heap.size _ _ (cpy y362 t365) at ho; rw [← Ny368.out] at ho; have n0_ := aM (Kd.V_afterv (ok := (fun k_ => (P0_ k_ ∨ w.heap.size ≤ k_) ∧ some k_ ≠ (v360 : Value).ownBlock ∧ some k_ ≠ (.slice Ao31 t365.length co31 : Value).ownBlock)) (by (with_reducible repeat (first | apply Kd.V_alloc | apply Kd.V_drewN | apply Kd.V_drew)); exact Kd.V_mono HO0.out (fun _ hk => ⟨⟨hk.1.1.1, ⟨hk.1.1.2, hk.2⟩⟩, hk.1.2⟩)) hg hat); have n1_ := aM (Kd.R_after (ok := (fun k_ => (w.heap.size ≤ k_) ∧ some k_ ≠ (.slice Ao31 t365.length co31 : Value).ownBlock)) (by (with_reducible repeat (first | apply rN | apply rD)); exact Kd.R_mono HO361.out (fun _ hk => ⟨⟨hk.1.1.1, hk.2⟩, hk.1.2⟩)) hg hat); have n2_ := aM (Kd.R_after (ok := (fun k_ => (w.heap.size ≤ k_) ∧ some k_ ≠ (v360 : Value).ownBlock)) (by (with_reducible repeat (first | apply rN | apply rD)); exact Kd.R_mono HO367.out (fun _ hk => ⟨⟨hk.1.1.1, hk.1.2⟩, hk.2⟩)) hg hat); have n3_ := aM (hb); have n4_ := aM (ho); clear HO0 HO361 HO367 HB HO364; have HO0 := n0_; have HO361 := n1_; have HO367 := n2_; have HB := n3_; have HO369 := n4_; clear n0_ n1_ n2_ n3_ n4_ ho hb hg hat) | ((with_reducible refine gate_dst (N := 59) rfl ?_); refine Kd.R_make (Kd.int .u64) _ 65 rfl (N := 59) rfl 53 _ _ rfl ji23 rfl rfl Try.underlying53 (.int .u64 0) 8 info65 rfl (by decide) (by omega) 0 (ok := fun _ => True) (okp := fun _ => True) rfl (fun _ hk => hk) trivial (oD (by first | (with_reducible assumption) | assumption)) (Nat.le_trans (Nat.mul_le_mul_right _ (oD (by first | (with_reducible assumption) | assumption) : ji23.toNat ≤ 35184372088832)) (by omega)) (Below.refl _ _) (Nat.le_refl _) ?_; intro v371 w32 ho33 hb hg_ hnew_; clear hg_ hnew_; (first | rw [← Ny370.out] at ho33 | (simp only [Int.reduceToNat] at ho33; rw [← Ny370.out] at ho33)); have n0_ := aM (Kd.V_elder' (by (with_reducible repeat (first | apply Kd.V_alloc | apply Kd.V_drewN | apply Kd.V_drew)); exact HO0.out) (rB ho33) hb); have n1_ := aM (rE (by apply_rules [HO361.out, rN, rD]) (rB ho33) hb); have n2_ := aM (rE (by apply_rules [HO367.out, rN, rD]) (rB ho33) hb); have n3_ := aM (rE (by apply_rules [HO369.out, rN, rD]) (rB ho33) hb); have n4_ := aM (Kd.R_lower (rW (rW (rW (Kd.R_newM (M := fun k_ => (w.heap.size ≤ k_)) ho33 (bZ (by apply_rules [HB.out, bA, pN, bD])) (fun k_ h_ => h_)) (rL (by apply_rules [HO361.out, rN, rD]))) (rL (by apply_rules [HO367.out, rN, rD]))) (rL (by apply_rules [HO369.out, rN, rD]))) (bZ (by apply_rules [HB.out, bA, pN, bD]))); have n5_ := aM (bS (by apply_rules [HB.out, bA, pN, bD]) hb); clear HO0 HO361 HO367 HO369 HB; have HO0 := n0_; have HO361 := n1_; have HO367 := n2_; have HO369 := n3_; have HO372 := n4_; have HB := n5_; clear n0_ n1_ n2_ n3_ n4_ n5_ hb ho33))
   go_loopg [12] k (fun kq v12 w' => ∃ (x10_1 : List Int) (x11_1 : List Int) (x12_1 : Int), v12 = .int .i64 x12_1 ∧ Aside0 (nat_DivMod.l0 kq t358 t359 x10_1 x11_1 x12_1 = some (r1, r2)) ∧ Aside0 (kq ≤ k) ∧ Aside0 (Kd.R (Kd.int .u64) 65 w' w.heap.size (fun k_ => (w.heap.size ≤ k_) ∧ some k_ ≠ (v363 : Value).ownBlock ∧ some k_ ≠ (v371 : Value).ownBlock) v360 t359) ∧ Aside0 (Kd.R (Kd.int .u64) 65 w' w.heap.size (fun k_ => (w.heap.size ≤ k_) ∧ some k_ ≠ (v360 : Value).ownBlock ∧ some k_ ≠ (v371 : Value).ownBlock) v363 x10_1) ∧ Aside0 (Kd.R (Kd.int .u64) 65 w' w.heap.size (fun k_ => (w.heap.size ≤ k_) ∧ some k_ ≠ (v360 : Value).ownBlock ∧ some k_ ≠ (v363 : Value).ownBlock) v371 x11_1) ∧ Aside0 (Below w.heap.size w w'))
   case atStart => exact ⟨(y368), (y370), (wrap64 ((l0.length : Int) - (l1.length : Int))), (by first | rfl | (simp; done) | (simp [*]; done)), H', ⟨Nat.le_refl _⟩, ⟨by (with_reducible repeat (first | apply rN | apply rD)); exact Kd.R_mono HO361.out (fun _ hk => ⟨hk.1.1.1, ⟨hk.1.2, hk.2⟩⟩)⟩, ⟨by (with_reducible repeat (first | apply rN | apply rD)); exact Kd.R_mono HO369.out (fun _ hk => ⟨hk.1.1, ⟨hk.1.2.1, hk.2⟩⟩)⟩, ⟨by (with_reducible repeat (first | apply rN | apply rD)); exact Kd.R_mono HO372.out (fun _ hk => ⟨hk.1.1.1.1, ⟨hk.1.1.2, hk.2⟩⟩)⟩, ⟨by apply_rules [HB.out, bA, pN, bD]⟩⟩
   case round =>
    clear H'
    try clear c1
    try clear c2
    try clear p2
    try clear c3
    try clear p3
    try clear q3
    try clear hx3
    try clear qi3
    try clear c4
    try clear c4b0
    try clear c5
    try clear c5b0
    try clear c5b1
    try clear c6
    try clear c6b0
    try clear c6b1
    try clear p6
    try clear c15
    try clear c15b0
    try clear c16
    try clear c16b0
    try clear c20
    try clear c20b0
    try clear c20b1
    try clear c21
    try clear c21b0
    try clear c21b1
    try clear c23
    try clear c24
    try clear c24b0
    try clear c24b1
    try clear c25
    try clear c25b0
    try clear c25b1
    try clear c29
    try clear c33
    try clear hx346_0
    try clear hx357_0
    try clear p346
    try clear p357
    try clear q346
    try clear q357
    obtain ⟨x10_1, x11_1, x12_1, rfl, HA, HK1, HO_9, HO_10, HO_11, HB⟩ := hrel
    cases gk with
    | zero => exact absurd HA.out (by simp [nat_DivMod.l0])
    | succ k1 =>
     have H := HA.out
     clear HA
     simp only [nat_DivMod.l0] at H
     by_cases c34 : x12_1 ≥ 0
     ·rw [if_pos c34] at H
      have c34b0 : decide (0 ≤ x12_1) = true := dT c34
      clear c34
      replace H := oB H
      obtain ⟨t382, A350, H⟩ := H
      replace H : ((nat_take.f k1 x10_1 t359 x12_1 t382).bind fun bt383 => (if bt383.1 = true then (nat_DivMod.l1 k1 t358 t359 bt383.2 x11_1 x12_1 (IntKind.u64.wrap (t382 - 1))) else (if 0 ≤ x12_1 then (if x12_1 < (x11_1.length : Int) then (nat_DivMod.l0 k1 t358 t359 bt383.2 (x11_1.set (x12_1 : Int).toNat t382) (wrap64 (x12_1 - 1))) else (none)) else (none)))) = some (r1, r2) := H
      have A35 := aM A350; clear A350
      replace H := oB H
      obtain ⟨⟨t383, t384⟩, A360, H⟩ := H
      replace H : (if t383 = true then (nat_DivMod.l1 k1 t358 t359 t384 x11_1 x12_1 (IntKind.u64.wrap (t382 - 1))) else (if 0 ≤ x12_1 then (if x12_1 < (x11_1.length : Int) then (nat_DivMod.l0 k1 t358 t359 t384 (x11_1.set (x12_1 : Int).toNat t382) (wrap64 (x12_1 - 1))) else (none)) else (none))) = some (r1, r2) := H
      have A36 := aM A360; clear A360
      by_cases c37 : t383 = true
      ·subst c37
       have H1 : (nat_DivMod.l1 k1 t358 t359 t384 x11_1 x12_1 (IntKind.u64.wrap (t382 - 1))) = some (r1, r2) := by rw [if_pos rfl] at H; exact H
       clear H
       have H := H1
       clear H1; have H' := aM H; clear H
       obtain ⟨Ao38, co38, eo38⟩ := Kd.R_slice HO_10.out
       subst eo38
       obtain ⟨Ao39, co39, eo39⟩ := Kd.R_slice HO_9.out
       subst eo39
       go_wp2_with (first | ((with_reducible refine gC (f := 36) rfl ?_); refine gL (some 72) rfl rfl Try.func36 (by kernel_rfl) rfl #[.slice Ao38 x10_1.length co38, .slice Ao39 t359.length co39, .int .i64 x12_1] rfl (by (try simp only [mA, mC, mN]); first | done | rfl | (simp only [lD, lT]; rfl)) ?_; (with_reducible refine (nat_guess.calls k1 _ _ x10_1 _ _ t359 x12_1 t382 _ ?side1 ?side2 ?side3 ?side4 A35.out).mono ?_); (case side1 => repeat (first | exact (rS HO_10.out).2.2 | (with_reducible refine cA ?_ _) | (with_reducible refine cN ?_ _) | (with_reducible refine cD ?_))); (case side2 => exact (rS HO_10.out).2.1); (case side3 => repeat (first | exact (rS HO_9.out).2.2 | (with_reducible refine cA ?_ _) | (with_reducible refine cN ?_ _) | (with_reducible refine cD ?_))); (case side4 => exact (rS HO_9.out).2.1); rintro e w' ⟨rfl, ⟨nd, rfl⟩⟩; refine ⟨_, rfl, ?_⟩) | ((with_reducible refine gC (f := 37) rfl ?_); refine gL (some 77) rfl rfl Try.func37 (by kernel_rfl) rfl #[.slice Ao38 x10_1.length co38, .slice Ao39 t359.length co39, .int .i64 x12_1, .int .u64 t382] rfl (by (try simp only [mA, mC, mN]); first | done | rfl | (simp only [lD, lT]; rfl)) ?_; (with_reducible refine (nat_take.calls k1 (fun k_ => some k_ = (.slice Ao38 x10_1.length co38 : Value).ownBlock) (.slice Ao38 x10_1.length co38) x10_1 _ _ t359 x12_1 t382 true t384 w _ ?side1 ?side2 ?side3 ?side4 A36.out).mono ?_); (case side1 => repeat (first | (with_reducible first | exact HB.out | apply bA | apply pN | apply bD) | exact HB.out)); (case side2 => exact Kd.R_tight rfl HO_10.out); (case side3 => exact Kd.C_kept_own (HO_9.out) (fun k_ hk_ hs_ => (hk_.2.1) hs_)); (case side4 => exact (rS HO_9.out).2.1); rintro e w40 ⟨rfl, hy0, hb, hkp⟩; refine ⟨_, rfl, ?_⟩; have n0_ := aM (Kd.R_mono (ok' := fun k_ => (w.heap.size ≤ k_) ∧ some k_ ≠ (.slice Ao38 x10_1.length co38 : Value).ownBlock ∧ some k_ ≠ (v371 : Value).ownBlock) (Kd.R_keptB (HO_9.out) hkp (fun k_ hk_ hs_ => (hk_.2.1) hs_)) (fun k_ hk_ => ⟨hk_.1.1, hk_.1.2.1, hk_.1.2.2⟩)); have n1_ := aM (Kd.R_reok rfl hy0 (fun k_ e_ => HO_10.out.1 k_ e_)); have n2_ := aM (Kd.R_mono (ok' := fun k_ => (w.heap.size ≤ k_) ∧ some k_ ≠ (.slice Ao39 t359.length co39 : Value).ownBlock ∧ some k_ ≠ (.slice Ao38 x10_1.length co38 : Value).ownBlock) (Kd.R_keptB (HO_11.out) hkp (fun k_ hk_ hs_ => (hk_.2.2) hs_)) (fun k_ hk_ => ⟨hk_.1.1, hk_.1.2.1, hk_.1.2.2⟩)); have n3_ := aM (hb); clear HO_9 HO_10 HO_11 HB; have HO_9 := n0_; have HO_10 := n1_; have HO_11 := n2_; have HB := n3_; clear n0_ n1_ n2_ n3_; (try clear hb); (try clear hkp); (try clear hy0)))
       go_loopg [13] k1 (fun kq v13 w' => ∃ (x10_2 : List Int) (x13_2 : Int), v13 = .int .u64 x13_2 ∧ Aside0 (nat_DivMod.l1 kq t358 t359 x10_2 x11_1 x12_1 x13_2 = some (r1, r2)) ∧ Aside0 (kq ≤ k1) ∧ Aside0 (Kd.R (Kd.int .u64) 65 w' w.heap.size (fun k_ => (w.heap.size ≤ k_) ∧ some k_ ≠ ((.slice Ao38 x10_1.length co38) : Value).ownBlock ∧ some k_ ≠ (v371 : Value).ownBlock) (.slice Ao39 t359.length co39) t359) ∧ Aside0 (Kd.R (Kd.int .u64) 65 w' w.heap.size (fun k_ => (w.heap.size ≤ k_) ∧ some k_ ≠ ((.slice Ao39 t359.length co39) : Value).ownBlock ∧ some k_ ≠ (v371 : Value).ownBlock) (.slice Ao38 x10_1.length co38) x10_2) ∧ Aside0 (Kd.R (Kd.int .u64) 65 w' w.heap.size (fun k_ => (w.heap.size ≤ k_) ∧ some k_ ≠ ((.slice Ao39 t359.length co39) : Value).ownBlock ∧ some k_ ≠ ((.slice Ao38 x10_1.length co38) : Value).ownBlock) v371 x11_1) ∧ Aside0 (Below w.heap.size w w'))
       case atStart => exact ⟨(t384), (IntKind.u64.wrap (t382 - 1)), (by first | rfl | (simp; done) | (simp [*]; done)), H', ⟨Nat.le_refl _⟩, ⟨by apply_rules [HO_9.out, rN, rD]⟩, ⟨by apply_rules [HO_10.out, rN, rD]⟩, ⟨by apply_rules [HO_11.out, rN, rD]⟩, ⟨by apply_rules [HB.out, bA, pN, bD]⟩⟩
       case round =>
        clear H'
        try clear c1
        try clear c2
        try clear p2
        try clear c3
        try clear p3
        try clear q3
        try clear hx3
        try clear qi3
        try clear c4
        try clear c4b0
        try clear c5
        try clear c5b0
        try clear c5b1
        try clear c6
        try clear c6b0
        try clear c6b1
        try clear p6
        try clear c15
        try clear c15b0
        try clear c16
        try clear c16b0
        try clear c20
        try clear c20b0
        try clear c20b1
        try clear c21
        try clear c21b0
        try clear c21b1
        try clear c23
        try clear c24
        try clear c24b0
        try clear c24b1
        try clear c25
        try clear c25b0
        try clear c25b1
        try clear c29
        try clear c33
        try clear c34
        try clear c34b0
        try clear p34
        try clear q34
        try clear hx34
        try clear qi34
        try clear c35
        try clear p35
        try clear q35
        try clear hx35
        try clear c36
        try clear c37
        try clear hx346_0
        try clear hx357_0
        try clear p2
        try clear p3
        try clear p346
        try clear p357
        try clear p6
        try clear q3
        try clear q346
        try clear q357
        obtain ⟨x10_2, x13_2, rfl, HA, HK2, HO_9, HO_10, HO_11, HB⟩ := hrel
        have hl10_2 := (rS HO_10.out).1
        rw [hl10_2] at HO_10
        (try simp only [hl10_2])
        (try simp only [hl10_2] at HO_9)
        (try simp only [hl10_2] at HO_11)
        cases gk with
        | zero => exact absurd HA.out (by simp [nat_DivMod.l1])
        | succ k2 =>
         have H := HA.out
         clear HA
         simp only [nat_DivMod.l1] at H
         replace H := oB H
         obtain ⟨⟨t385, t386⟩, A410, H⟩ := H
         replace H : (if t385 = true then (if 0 ≤ x12_1 then (if x12_1 < (x11_1.length : Int) then (nat_DivMod.l0 k2 t358 t359 t386 (x11_1.set (x12_1 : Int).toNat x13_2) (wrap64 (x12_1 - 1))) else (none)) else (none)) else (nat_DivMod.l1 k2 t358 t359 t386 x11_1 x12_1 (IntKind.u64.wrap (x13_2 - 1)))) = some (r1, r2) := H
         have A41 := aM A410; clear A410
         by_cases c42 : t385 = true
         ·subst c42
          have H1 : (if 0 ≤ x12_1 then (if x12_1 < (x11_1.length : Int) then (nat_DivMod.l0 k2 t358 t359 t386 (x11_1.set (x12_1 : Int).toNat x13_2) (wrap64 (x12_1 - 1))) else (none)) else (none)) = some (r1, r2) := by rw [if_pos rfl] at H; exact H
          clear H
          have H := H1
          clear H1
          by_cases c43 : 0 ≤ x12_1
          rotate_left
          ·rw [if_neg c43] at H; cases H
          rw [if_pos c43] at H
          have c43b0 : decide (0 ≤ x12_1) = true := dT c43
          clear c43
          by_cases c44 : x12_1 < (x11_1.length : Int)
          rotate_left
          ·rw [if_neg c44] at H; cases H
          rw [if_pos c44] at H
          have c44b0 : decide (x12_1 < (x11_1.length : Int)) = true := dT c44
          (try simp only [hl10_2] at c44b0)
          clear c44
          obtain ⟨y387, hy387⟩ : ∃ y_ : List Int, y_ = (x11_1.set (x12_1 : Int).toNat x13_2) := ⟨_, rfl⟩
          replace H : (nat_DivMod.l0 k2 t358 t359 t386 y387 (wrap64 (x12_1 - 1))) = some (r1, r2) := by first | (rw [hy387]; exact H) | exact H
          have Ny387 := aM hy387
          clear hy387; have H' := aM H; clear H
          go_wp2_with (first | ((with_reducible refine gC (f := 38) rfl ?_); refine gL (some 83) rfl rfl Try.func38 (by kernel_rfl) rfl #[.slice Ao38 x10_2.length co38, .slice Ao39 t359.length co39, .int .i64 x12_1] rfl (by (try simp only [mA, mC, mN]); first | done | rfl | (simp only [lD, lT]; rfl)) ?_; (with_reducible refine (nat_give.calls k2 (fun k_ => some k_ = (.slice Ao38 x10_2.length co38 : Value).ownBlock) (.slice Ao38 x10_2.length co38) x10_2 _ _ t359 x12_1 true t386 w _ ?side1 ?side2 ?side3 ?side4 A41.out).mono ?_); (case side1 => repeat (first | (with_reducible first | exact HB.out | apply bA | apply pN | apply bD) | exact HB.out)); (case side2 => exact Kd.R_tight rfl HO_10.out); (case side3 => exact Kd.C_kept_own (HO_9.out) (fun k_ hk_ hs_ => (hk_.2.1) hs_)); (case side4 => exact (rS HO_9.out).2.1); rintro e w46 ⟨rfl, hy0, hb, hkp⟩; refine ⟨_, rfl, ?_⟩; have n0_ := aM (Kd.R_mono (ok' := fun k_ => (w.heap.size ≤ k_) ∧ some k_ ≠ (.slice Ao38 x10_2.length co38 : Value).ownBlock ∧ some k_ ≠ (v371 : Value).ownBlock) (Kd.R_keptB (HO_9.out) hkp (fun k_ hk_ hs_ => (hk_.2.1) hs_)) (fun k_ hk_ => ⟨hk_.1.1, hk_.1.2.1, hk_.1.2.2⟩)); have n1_ := aM (Kd.R_reok rfl hy0 (fun k_ e_ => HO_10.out.1 k_ e_)); have n2_ := aM (Kd.R_mono (ok' := fun k_ => (w.heap.size ≤ k_) ∧ some k_ ≠ (.slice Ao39 t359.length co39 : Value).ownBlock ∧ some k_ ≠ (.slice Ao38 x10_2.length co38 : Value).ownBlock) (Kd.R_keptB (HO_11.out) hkp (fun k_ hk_ hs_ => (hk_.2.2) hs_)) (fun k_ hk_ => ⟨hk_.1.1, hk_.1.2.1, hk_.1.2.2⟩)); have n3_ := aM (hb); clear HO_9 HO_10 HO_11 HB; have HO_9 := n0_; have HO_10 := n1_; have HO_11 := n2_; have HB := n3_; clear n0_ n1_ n2_ n3_; (try clear hb); (try clear hkp); (try clear hy0); have p45 : 0 ≤ (x12_1 : Int) := oD (by first | (with_reducible assumption) | assumption); have q45 : (x12_1 : Int) < ((x11_1.length : Int) : Int) := oD (by first | (with_reducible assumption) | assumption); obtain ⟨go45, co45, eo45, gb45, gl45, cl45, HG45⟩ := Kd.R_form HO_11.out (by omega); (first | cases eo45 | (injection eo45 with ea_ en_ ec_; (first | subst ea_ | (injection ea_ with ea_; subst ea_)); subst ec_; clear en_)); have GB45 := aM gb45; have GG45 := aM HG45; clear gb45 gl45 HG45; obtain ⟨hx45_0, hf45_0⟩ := Kd.R_celln 0 HO_11.out (x12_1 : Int) p45 q45; replace p45 := eq_true p45; replace q45 := eq_true q45; obtain ⟨hy47_, hz47_⟩ := Kd.R_celln 0 HO_11.out (x12_1 : Int) (oD (by first | (with_reducible assumption) | assumption)) (oD (by first | (with_reducible assumption) | assumption)); have HP47 := Kd.R_putg HO_11.out (x12_1 : Int) x13_2) | ((with_reducible refine gate_store (t := 65) (p := 90) rfl ?_); refine store_event (t := 65) (p := 90) (v := ?vo_w48) (w1 := (w46.setCell ⟨go45, (x12_1 : Int).toNat, none⟩ (.int .u64 x13_2))) ?hg ?ho ?hn ?hr ?_; (case ho => rfl); (case hg => rfl); (case hn => rfl); (case hr => first | (go_simp; done) | (go_simp; rfl)); intro w48 hw; have hg : w46.grownBy w48 (some go45) := (by rw [hw]; exact HP47.2); have hp_ : Kd.R (Kd.int .u64) 65 w48 w.heap.size (fun k_ => (w.heap.size ≤ k_) ∧ some k_ ≠ (.slice Ao39 t359.length co39 : Value).ownBlock ∧ some k_ ≠ (.slice Ao38 x10_2.length co38 : Value).ownBlock) (.slice (some ⟨go45, 0, none⟩) x11_1.length co45) y387 := (by rw [hw, Ny387.out]; exact HP47.1); clear HP47; have n0_ := aM (Kd.R_after (v := (.slice (some ⟨go45, 0, none⟩) x11_1.length co45)) (v1 := (.slice (some ⟨go45, 0, none⟩) x11_1.length co45)) (ok := (fun k_ => (w.heap.size ≤ k_) ∧ some k_ ≠ (.slice Ao38 x10_2.length co38 : Value).ownBlock)) (by (with_reducible repeat (first | apply rN | apply rD)); exact Kd.R_mono HO_9.out (fun _ hk => ⟨⟨hk.1, hk.2.1⟩, hk.2.2⟩)) hg (.inl rfl)); have n1_ := aM (Kd.R_after (v := (.slice (some ⟨go45, 0, none⟩) x11_1.length co45)) (v1 := (.slice (some ⟨go45, 0, none⟩) x11_1.length co45)) (ok := (fun k_ => (w.heap.size ≤ k_) ∧ some k_ ≠ (.slice Ao39 t359.length co39 : Value).ownBlock)) (by (with_reducible repeat (first | apply rN | apply rD)); exact Kd.R_mono HO_10.out (fun _ hk => ⟨⟨hk.1, hk.2.1⟩, hk.2.2⟩)) hg (.inl rfl)); have n2_ := aM (hp_); have n3_ := aM ((by rw [hw]; exact bE (HB.out) GB45.out : Below w.heap.size w w48)); clear HO_9 HO_10 HO_11 HB; have HO_9 := n0_; have HO_10 := n1_; have HO_11 := n2_; have HB := n3_; clear n0_ n1_ n2_ n3_ hg hw hp_))
          (try simp only [← hl10_2])
          go_roundg k2
          case measure => have := HK1.out; have := HK2.out; omega
          case rel => exact ⟨(t386), (y387), (wrap64 (x12_1 - 1)), (by first | rfl | (simp; done) | (simp [*]; done)), (by first | exact H' | (have h_ := H'; simp only [← hji14, ← hji19, ← hji23] at h_; exact h_)), ⟨by have := HK1.out; have := HK2.out; omega⟩, ⟨by (try simp only [hl10_2]); (with_reducible repeat (first | apply rN | apply rD)); exact Kd.R_mono HO_9.out (fun _ hk => ⟨hk.1.1, ⟨hk.1.2, hk.2⟩⟩)⟩, ⟨by (try simp only [hl10_2]); (with_reducible repeat (first | apply rN | apply rD)); exact Kd.R_mono HO_10.out (fun _ hk => ⟨hk.1.1, ⟨hk.1.2, hk.2⟩⟩)⟩, ⟨by (try simp only [hl10_2]); (with_reducible repeat (first | apply rN | apply rD)); exact HO_11.out⟩, ⟨by apply_rules [HB.out, bA, pN, bD]⟩⟩
         ·replace c42 := Bool.eq_false_iff.mpr c42
          subst c42
          have H1 : (nat_DivMod.l1 k2 t358 t359 t386 x11_1 x12_1 (IntKind.u64.wrap (x13_2 - 1))) = some (r1, r2) := by rw [if_neg (show ¬ (false = true) by decide)] at H; exact H
          clear H
          have H := H1
          clear H1; have H' := aM H; clear H
          go_wp2_with (first | ((with_reducible refine gC (f := 38) rfl ?_); refine gL (some 83) rfl rfl Try.func38 (by kernel_rfl) rfl #[.slice Ao38 x10_2.length co38, .slice Ao39 t359.length co39, .int .i64 x12_1] rfl (by (try simp only [mA, mC, mN]); first | done | rfl | (simp only [lD, lT]; rfl)) ?_; (with_reducible refine (nat_give.calls k2 (fun k_ => some k_ = (.slice Ao38 x10_2.length co38 : Value).ownBlock) (.slice Ao38 x10_2.length co38) x10_2 _ _ t359 x12_1 false t386 w _ ?side1 ?side2 ?side3 ?side4 A41.out).mono ?_); (case side1 => repeat (first | (with_reducible first | exact HB.out | apply bA | apply pN | apply bD) | exact HB.out)); (case side2 => exact Kd.R_tight rfl HO_10.out); (case side3 => exact Kd.C_kept_own (HO_9.out) (fun k_ hk_ hs_ => (hk_.2.1) hs_)); (case side4 => exact (rS HO_9.out).2.1); rintro e w49 ⟨rfl, hy0, hb, hkp⟩; refine ⟨_, rfl, ?_⟩; have n0_ := aM (Kd.R_mono (ok' := fun k_ => (w.heap.size ≤ k_) ∧ some k_ ≠ (.slice Ao38 x10_2.length co38 : Value).ownBlock ∧ some k_ ≠ (v371 : Value).ownBlock) (Kd.R_keptB (HO_9.out) hkp (fun k_ hk_ hs_ => (hk_.2.1) hs_)) (fun k_ hk_ => ⟨hk_.1.1, hk_.1.2.1, hk_.1.2.2⟩)); have n1_ := aM (Kd.R_reok rfl hy0 (fun k_ e_ => HO_10.out.1 k_ e_)); have n2_ := aM (Kd.R_mono (ok' := fun k_ => (w.heap.size ≤ k_) ∧ some k_ ≠ (.slice Ao39 t359.length co39 : Value).ownBlock ∧ some k_ ≠ (.slice Ao38 x10_2.length co38 : Value).ownBlock) (Kd.R_keptB (HO_11.out) hkp (fun k_ hk_ hs_ => (hk_.2.2) hs_)) (fun k_ hk_ => ⟨hk_.1.1, hk_.1.2.1, hk_.1.2.2⟩)); have n3_ := aM (hb); clear HO_9 HO_10 HO_11 HB; have HO_9 := n0_; have HO_10 := n1_; have HO_11 := n2_; have HB := n3_; clear n0_ n1_ n2_ n3_; (try clear hb); (try clear hkp); (try clear hy0)))
          (try simp only [← hl10_2])
          go_roundg k2
          case measure => have := HK1.out; have := HK2.out; omega
          case rel => exact ⟨(t386), (IntKind.u64.wrap (x13_2 - 1)), (by first | rfl | (simp; done) | (simp [*]; done)), (by first | exact H' | (have h_ := H'; simp only [← hji14, ← hji19, ← hji23] at h_; exact h_)), ⟨by have := HK1.out; have := HK2.out; omega⟩, ⟨by (try simp only [hl10_2]); (with_reducible repeat (first | apply rN | apply rD)); exact HO_9.out⟩, ⟨by (try simp only [hl10_2]); (with_reducible repeat (first | apply rN | apply rD)); exact HO_10.out⟩, ⟨by (try simp only [hl10_2]); (with_reducible repeat (first | apply rN | apply rD)); exact HO_11.out⟩, ⟨by apply_rules [HB.out, bA, pN, bD]⟩⟩
      ·replace c37 := Bool.eq_false_iff.mpr c37
       subst c37
       have H1 : (if 0 ≤ x12_1 then (if x12_1 < (x11_1.length : Int) then (nat_DivMod.l0 k1 t358 t359 t384 (x11_1.set (x12_1 : Int).toNat t382) (wrap64 (x12_1 - 1))) else (none)) else (none)) = some (r1, r2) := by rw [if_neg (show ¬ (false = true) by decide)] at H; exact H
       clear H
       have H := H1
       clear H1
       by_cases c50 : 0 ≤ x12_1
       rotate_left
       ·rw [if_neg c50] at H; cases H
       rw [if_pos c50] at H
       have c50b0 : decide (0 ≤ x12_1) = true := dT c50
       clear c50
       by_cases c51 : x12_1 < (x11_1.length : Int)
       rotate_left
       ·rw [if_neg c51] at H; cases H
       rw [if_pos c51] at H
       have c51b0 : decide (x12_1 < (x11_1.length : Int)) = true := dT c51
       clear c51
       obtain ⟨y388, hy388⟩ : ∃ y_ : List Int, y_ = (x11_1.set (x12_1 : Int).toNat t382) := ⟨_, rfl⟩
       replace H : (nat_DivMod.l0 k1 t358 t359 t384 y388 (wrap64 (x12_1 - 1))) = some (r1, r2) := by first | (rw [hy388]; exact H) | exact H
       have Ny388 := aM hy388
       clear hy388; have H' := aM H; clear H
       obtain ⟨Ao53, co53, eo53⟩ := Kd.R_slice HO_10.out
       subst eo53
       obtain ⟨Ao54, co54, eo54⟩ := Kd.R_slice HO_9.out
       subst eo54
       go_wp2_with (first | ((with_reducible refine gC (f := 36) rfl ?_); refine gL (some 72) rfl rfl Try.func36 (by kernel_rfl) rfl #[.slice Ao53 x10_1.length co53, .slice Ao54 t359.length co54, .int .i64 x12_1] rfl (by (try simp only [mA, mC, mN]); first | done | rfl | (simp only [lD, lT]; rfl)) ?_; (with_reducible refine (nat_guess.calls k1 _ _ x10_1 _ _ t359 x12_1 t382 _ ?side1 ?side2 ?side3 ?side4 A35.out).mono ?_); (case side1 => repeat (first | exact (rS HO_10.out).2.2 | (with_reducible refine cA ?_ _) | (with_reducible refine cN ?_ _) | (with_reducible refine cD ?_))); (case side2 => exact (rS HO_10.out).2.1); (case side3 => repeat (first | exact (rS HO_9.out).2.2 | (with_reducible refine cA ?_ _) | (with_reducible refine cN ?_ _) | (with_reducible refine cD ?_))); (case side4 => exact (rS HO_9.out).2.1); rintro e w' ⟨rfl, ⟨nd, rfl⟩⟩; refine ⟨_, rfl, ?_⟩; (try (rw [drewN_self wr]; generalize hq_ : World.drewN wr _ = wr; have n0_ : Aside0 (Kd.R (Kd.int .u64) 65 wr w.heap.size (fun k_ => (((w.heap.size ≤ k_)) ∧ (some k_ ≠ (.slice Ao54 t359.length co54 : Value).ownBlock ∧ some k_ ≠ (v371 : Value).ownBlock))) (.slice Ao53 x10_1.length co53) x10_1) := ⟨by rw [← hq_]; exact (by apply_rules [HO_10.out, rN, rD])⟩; have n1_ : Aside0 (Kd.R (Kd.int .u64) 65 wr w.heap.size (fun k_ => (((w.heap.size ≤ k_)) ∧ (some k_ ≠ (.slice Ao54 t359.length co54 : Value).ownBlock ∧ some k_ ≠ (.slice Ao53 x10_1.length co53 : Value).ownBlock))) v371 x11_1) := ⟨by rw [← hq_]; exact (by apply_rules [HO_11.out, rN, rD])⟩; have n2_ : Aside0 (Kd.R (Kd.int .u64) 65 wr w.heap.size (fun k_ => (((w.heap.size ≤ k_)) ∧ (some k_ ≠ (.slice Ao53 x10_1.length co53 : Value).ownBlock ∧ some k_ ≠ (v371 : Value).ownBlock))) (.slice Ao54 t359.length co54) t359) := ⟨by rw [← hq_]; exact (by apply_rules [HO_9.out, rN, rD])⟩; have n3_ : Aside0 (Below w.heap.size w wr) := ⟨by rw [← hq_]; exact (by apply_rules [HB.out, bA, pN, bD])⟩; clear HO_10 HO_11 HO_9 HB hq_; have HO_10 := n0_; have HO_11 := n1_; have HO_9 := n2_; have HB := n3_; clear n0_ n1_ n2_ n3_))) | ((with_reducible refine gC (f := 37) rfl ?_); refine gL (some 77) rfl rfl Try.func37 (by kernel_rfl) rfl #[.slice Ao53 x10_1.length co53, .slice Ao54 t359.length co54, .int .i64 x12_1, .int .u64 t382] rfl (by (try simp only [mA, mC, mN]); first | done | rfl | (simp only [lD, lT]; rfl)) ?_; (with_reducible refine (nat_take.calls k1 (fun k_ => some k_ = (.slice Ao53 x10_1.length co53 : Value).ownBlock) (.slice Ao53 x10_1.length co53) x10_1 _ _ t359 x12_1 t382 false t384 w _ ?side1 ?side2 ?side3 ?side4 A36.out).mono ?_); (case side1 => repeat (first | (with_reducible first | exact HB.out | apply bA | apply pN | apply bD) | exact HB.out)); (case side2 => exact Kd.R_tight rfl HO_10.out); (case side3 => exact Kd.C_kept_own (HO_9.out) (fun k_ hk_ hs_ => (hk_.2.1) hs_)); (case side4 => exact (rS HO_9.out).2.1); rintro e w55 ⟨rfl, hy0, hb, hkp⟩; refine ⟨_, rfl, ?_⟩; have n0_ := aM (Kd.R_mono (ok' := fun k_ => (w.heap.size ≤ k_) ∧ some k_ ≠ (.slice Ao53 x10_1.length co53 : Value).ownBlock ∧ some k_ ≠ (v371 : Value).ownBlock) (Kd.R_keptB (HO_9.out) hkp (fun k_ hk_ hs_ => (hk_.2.1) hs_)) (fun k_ hk_ => ⟨hk_.1.1, hk_.1.2.1, hk_.1.2.2⟩)); have n1_ := aM (Kd.R_reok rfl hy0 (fun k_ e_ => HO_10.out.1 k_ e_)); have n2_ := aM (Kd.R_mono (ok' := fun k_ => (w.heap.size ≤ k_) ∧ some k_ ≠ (.slice Ao54 t359.length co54 : Value).ownBlock ∧ some k_ ≠ (.slice Ao53 x10_1.length co53 : Value).ownBlock) (Kd.R_keptB (HO_11.out) hkp (fun k_ hk_ hs_ => (hk_.2.2) hs_)) (fun k_ hk_ => ⟨hk_.1.1, hk_.1.2.1, hk_.1.2.2⟩)); have n3_ := aM (hb); clear HO_9 HO_10 HO_11 HB; have HO_9 := n0_; have HO_10 := n1_; have HO_11 := n2_; have HB := n3_; clear n0_ n1_ n2_ n3_; (try clear hb); (try clear hkp); (try clear hy0); have p52 : 0 ≤ (x12_1 : Int) := oD (by first | (with_reducible assumption) | assumption); have q52 : (x12_1 : Int) < ((x11_1.length : Int) : Int) := oD (by first | (with_reducible assumption) | assumption); obtain ⟨go52, co52, eo52, gb52, gl52, cl52, HG52⟩ := Kd.R_form HO_11.out (by omega); (first | cases eo52 | (injection eo52 with ea_ en_ ec_; (first | subst ea_ | (injection ea_ with ea_; subst ea_)); subst ec_; clear en_)); have GB52 := aM gb52; have GG52 := aM HG52; clear gb52 gl52 HG52; obtain ⟨hx52_0, hf52_0⟩ := Kd.R_celln 0 HO_11.out (x12_1 : Int) p52 q52; replace p52 := eq_true p52; replace q52 := eq_true q52; obtain ⟨hy56_, hz56_⟩ := Kd.R_celln 0 HO_11.out (x12_1 : Int) (oD (by first | (with_reducible assumption) | assumption)) (oD (by first | (with_reducible assumption) | assumption)); have HP56 := Kd.R_putg HO_11.out (x12_1 : Int) t382) | ((with_reducible refine gate_store (t := 65) (p := 90) rfl ?_); refine store_event (t := 65) (p := 90) (v := ?vo_w57) (w1 := (w55.setCell ⟨go52, (x12_1 : Int).toNat, none⟩ (.int .u64 t382))) ?hg ?ho ?hn ?hr ?_; (case ho => rfl); (case hg => rfl); (case hn => rfl); (case hr => first | (go_simp; done) | (go_simp; rfl)); intro w57 hw; have hg : w55.grownBy w57 (some go52) := (by rw [hw]; exact HP56.2); have hp_ : Kd.R (Kd.int .u64) 65 w57 w.heap.size (fun k_ => (w.heap.size ≤ k_) ∧ some k_ ≠ (.slice Ao54 t359.length co54 : Value).ownBlock ∧ some k_ ≠ (.slice Ao53 x10_1.length co53 : Value).ownBlock) (.slice (some ⟨go52, 0, none⟩) x11_1.length co52) y388 := (by rw [hw, Ny388.out]; exact HP56.1); clear HP56; have n0_ := aM (Kd.R_after (v := (.slice (some ⟨go52, 0, none⟩) x11_1.length co52)) (v1 := (.slice (some ⟨go52, 0, none⟩) x11_1.length co52)) (ok := (fun k_ => (w.heap.size ≤ k_) ∧ some k_ ≠ (.slice Ao53 x10_1.length co53 : Value).ownBlock)) (by (with_reducible repeat (first | apply rN | apply rD)); exact Kd.R_mono HO_9.out (fun _ hk => ⟨⟨hk.1, hk.2.1⟩, hk.2.2⟩)) hg (.inl rfl)); have n1_ := aM (Kd.R_after (v := (.slice (some ⟨go52, 0, none⟩) x11_1.length co52)) (v1 := (.slice (some ⟨go52, 0, none⟩) x11_1.length co52)) (ok := (fun k_ => (w.heap.size ≤ k_) ∧ some k_ ≠ (.slice Ao54 t359.length co54 : Value).ownBlock)) (by (with_reducible repeat (first | apply rN | apply rD)); exact Kd.R_mono HO_10.out (fun _ hk => ⟨⟨hk.1, hk.2.1⟩, hk.2.2⟩)) hg (.inl rfl)); have n2_ := aM (hp_); have n3_ := aM ((by rw [hw]; exact bE (HB.out) GB52.out : Below w.heap.size w w57)); clear HO_9 HO_10 HO_11 HB; have HO_9 := n0_; have HO_10 := n1_; have HO_11 := n2_; have HB := n3_; clear n0_ n1_ n2_ n3_ hg hw hp_))
       go_roundg k1
       case measure => have := HK1.out; omega
       case rel => exact ⟨(t384), (y388), (wrap64 (x12_1 - 1)), (by first | rfl | (simp; done) | (simp [*]; done)), (by first | exact H' | (have h_ := H'; simp only [← hji14, ← hji19, ← hji23] at h_; exact h_)), ⟨by have := HK1.out; omega⟩, ⟨by (with_reducible repeat (first | apply rN | apply rD)); exact Kd.R_mono HO_9.out (fun _ hk => ⟨hk.1.1, ⟨hk.1.2, hk.2⟩⟩)⟩, ⟨by (with_reducible repeat (first | apply rN | apply rD)); exact Kd.R_mono HO_10.out (fun _ hk => ⟨hk.1.1, ⟨hk.1.2, hk.2⟩⟩)⟩, ⟨by apply_rules [HO_11.out, rN, rD]⟩, ⟨by apply_rules [HB.out, bA, pN, bD]⟩⟩
     ·rw [if_neg c34] at H
      have c34b0 : decide (0 ≤ x12_1) = false := decide_eq_false c34
      clear c34
      replace H := oB H
      obtain ⟨t373, A580, H⟩ := H
      replace H : ((nat_cut.f k1 x10_1).bind fun t376 => ((nat_Shr.f k1 t376 t358).bind fun t379 => (some (t373, t379)))) = some (r1, r2) := H
      have A58 := aM A580; clear A580
      replace H := oB H
      obtain ⟨t376, A590, H⟩ := H
      replace H : ((nat_Shr.f k1 t376 t358).bind fun t379 => (some (t373, t379))) = some (r1, r2) := H
      have A59 := aM A590; clear A590
      replace H := oB H
      obtain ⟨t379, A600, H⟩ := H
      replace H : (some (t373, t379)) = some (r1, r2) := H
      have A60 := aM A600; clear A600
      simp only [Option.some.injEq, Prod.mk.injEq] at H
      obtain ⟨rfl, rfl⟩ := H
      obtain ⟨Ao61, co61, eo61⟩ := Kd.R_slice HO_11.out
      subst eo61
      go_wp2_with (first | ((with_reducible refine gC (f := 29) rfl ?_); refine gL (some 92) rfl rfl Try.func29 (by kernel_rfl) rfl #[.slice Ao61 x11_1.length co61] rfl (by (try simp only [mA, mC, mN]); first | done | rfl | (simp only [lD, lT]; rfl)) ?_; (with_reducible refine (nat_cut.calls k1 (fun k_ => some k_ = (.slice Ao61 x11_1.length co61 : Value).ownBlock) (.slice Ao61 x11_1.length co61) x11_1 t373 w _ ?side1 ?side2 A58.out).mono ?_); (case side1 => repeat (first | (with_reducible first | exact HB.out | apply bA | apply pN | apply bD) | exact HB.out)); (case side2 => exact Kd.R_tight rfl HO_11.out); rintro e w62 ⟨v374, rfl, ho0, hb, hkp⟩; refine ⟨_, rfl, ?_⟩; have n0_ := aM (Kd.R_mono (ok' := fun k_ => (w.heap.size ≤ k_) ∧ some k_ ≠ (v363 : Value).ownBlock ∧ some k_ ≠ (v374 : Value).ownBlock) (Kd.R_keptB (HO_9.out) hkp (fun k_ hk_ hs_ => (hk_.2.2) hs_)) (fun k_ hk_ => ⟨hk_.1.1, hk_.1.2.1, fun e_ => Or.elim (ho0.1 k_ e_.symm) (fun hs_ => hk_.2.1 hs_) (fun hn_ => Nat.not_le.2 hk_.2.2 hn_)⟩)); have n1_ := aM (Kd.R_mono (ok' := fun k_ => (w.heap.size ≤ k_) ∧ some k_ ≠ (v360 : Value).ownBlock ∧ some k_ ≠ (v374 : Value).ownBlock) (Kd.R_keptB (HO_10.out) hkp (fun k_ hk_ hs_ => (hk_.2.2) hs_)) (fun k_ hk_ => ⟨hk_.1.1, hk_.1.2.1, fun e_ => Or.elim (ho0.1 k_ e_.symm) (fun hs_ => hk_.2.1 hs_) (fun hn_ => Nat.not_le.2 hk_.2.2 hn_)⟩)); have n2_ := aM (Kd.R_mono (ok' := fun k_ => (w.heap.size ≤ k_) ∧ some k_ ≠ (v360 : Value).ownBlock ∧ some k_ ≠ (v363 : Value).ownBlock) ho0 (fun k_ hk_ => ⟨Or.elim hk_ (fun hs_ => (HO_11.out.1 k_ (hs_).symm).1) (fun hn_ => (Nat.le_trans (bZ (by apply_rules [HB.out, bA, pN, bD])) hn_)), Or.elim hk_ (fun hs_ => fun e_ => (((HO_9.out).1 k_ e_.symm).2.2) hs_) (fun hn_ => (Kd.fresh' (rL (by apply_rules [HO_9.out, rN, rD])) k_ hn_)), Or.elim hk_ (fun hs_ => fun e_ => (((HO_10.out).1 k_ e_.symm).2.2) hs_) (fun hn_ => (Kd.fresh' (rL (by apply_rules [HO_10.out, rN, rD])) k_ hn_))⟩)); have n3_ := aM (hb); clear HO_9 HO_10 HB HO_11; have HO_9 := n0_; have HO_10 := n1_; have HO375 := n2_; have HB := n3_; clear n0_ n1_ n2_ n3_; (try clear hb); (try clear hkp); (try clear ho0); obtain ⟨Ao63, co63, eo63⟩ := Kd.R_slice HO_10.out; subst eo63) | ((with_reducible refine gC (f := 29) rfl ?_); refine gL (some 94) rfl rfl Try.func29 (by kernel_rfl) rfl #[.slice Ao63 x10_1.length co63] rfl (by (try simp only [mA, mC, mN]); first | done | rfl | (simp only [lD, lT]; rfl)) ?_; (with_reducible refine (nat_cut.calls k1 (fun k_ => some k_ = (.slice Ao63 x10_1.length co63 : Value).ownBlock) (.slice Ao63 x10_1.length co63) x10_1 t376 w _ ?side1 ?side2 A59.out).mono ?_); (case side1 => repeat (first | (with_reducible first | exact HB.out | apply bA | apply pN | apply bD) | exact HB.out)); (case side2 => exact Kd.R_tight rfl HO_10.out); rintro e w64 ⟨v377, rfl, ho0, hb, hkp⟩; refine ⟨_, rfl, ?_⟩; have n0_ := aM (Kd.R_mono (ok' := fun k_ => (w.heap.size ≤ k_) ∧ some k_ ≠ (v374 : Value).ownBlock ∧ some k_ ≠ (v377 : Value).ownBlock) (Kd.R_keptB (HO_9.out) hkp (fun k_ hk_ hs_ => (hk_.2.1) hs_)) (fun k_ hk_ => ⟨hk_.1.1, hk_.1.2.2, fun e_ => Or.elim (ho0.1 k_ e_.symm) (fun hs_ => hk_.2.1 hs_) (fun hn_ => Nat.not_le.2 hk_.2.2 hn_)⟩)); have n1_ := aM (Kd.R_mono (ok' := fun k_ => (w.heap.size ≤ k_) ∧ some k_ ≠ (v360 : Value).ownBlock ∧ some k_ ≠ (v377 : Value).ownBlock) (Kd.R_keptB (HO375.out) hkp (fun k_ hk_ hs_ => (hk_.2.2) hs_)) (fun k_ hk_ => ⟨hk_.1.1, hk_.1.2.1, fun e_ => Or.elim (ho0.1 k_ e_.symm) (fun hs_ => hk_.2.1 hs_) (fun hn_ => Nat.not_le.2 hk_.2.2 hn_)⟩)); have n2_ := aM (Kd.R_mono (ok' := fun k_ => (w.heap.size ≤ k_) ∧ some k_ ≠ (v360 : Value).ownBlock ∧ some k_ ≠ (v374 : Value).ownBlock) ho0 (fun k_ hk_ => ⟨Or.elim hk_ (fun hs_ => (HO_10.out.1 k_ (hs_).symm).1) (fun hn_ => (Nat.le_trans (bZ (by apply_rules [HB.out, bA, pN, bD])) hn_)), Or.elim hk_ (fun hs_ => fun e_ => (((HO_9.out).1 k_ e_.symm).2.1) hs_) (fun hn_ => (Kd.fresh' (rL (by apply_rules [HO_9.out, rN, rD])) k_ hn_)), Or.elim hk_ (fun hs_ => fun e_ => (((HO375.out).1 k_ e_.symm).2.2) hs_) (fun hn_ => (Kd.fresh' (rL (by apply_rules [HO375.out, rN, rD])) k_ hn_))⟩)); have n3_ := aM (hb); clear HO_9 HO375 HB HO_10; have HO_9 := n0_; have HO375 := n1_; have HO378 := n2_; have HB := n3_; clear n0_ n1_ n2_ n3_; (try clear hb); (try clear hkp); (try clear ho0); obtain ⟨Ao65, co65, eo65⟩ := Kd.R_slice HO378.out; subst eo65) | ((with_reducible refine gC (f := 39) rfl ?_); refine gL (some 96) rfl rfl Try.func39 (by kernel_rfl) rfl #[.slice Ao65 t376.length co65, .int .i64 t358] rfl (by (try simp only [mA, mC, mN]); first | done | rfl | (simp only [lD, lT]; rfl)) ?_; (with_reducible refine (nat_Shr.calls k1 _ _ t376 t358 t379 _ ?side1 ?side2 A60.out).mono ?_); (case side1 => repeat (first | exact (rS HO378.out).2.2 | (with_reducible refine cA ?_ _) | (with_reducible refine cN ?_ _) | (with_reducible refine cD ?_))); (case side2 => exact (rS HO378.out).2.1); rintro e w66 ⟨v380, rfl, ho0, hb⟩; refine ⟨_, rfl, ?_⟩; have n0_ := aM (rE (by apply_rules [HO_9.out, rN, rD]) (rB ho0) hb); have n1_ := aM (rE (by apply_rules [HO375.out, rN, rD]) (rB ho0) hb); have n2_ := aM (rE (by apply_rules [HO378.out, rN, rD]) (rB ho0) hb); have n3_ := aM (Kd.R_lower (rW (rW (rW (Kd.R_newM (M := fun k_ => (w.heap.size ≤ k_)) ho0 (bZ (by apply_rules [HB.out, bA, pN, bD])) (fun k_ h_ => h_)) (rL (by apply_rules [HO_9.out, rN, rD]))) (rL (by apply_rules [HO375.out, rN, rD]))) (rL (by apply_rules [HO378.out, rN, rD]))) (bZ (by apply_rules [HB.out, bA, pN, bD]))); have n4_ := aM (bS (by apply_rules [HB.out, bA, pN, bD]) hb); clear HO_9 HO375 HO378 HB; have HO_9 := n0_; have HO375 := n1_; have HO378 := n2_; have HO381 := n3_; have HB := n4_; clear n0_ n1_ n2_ n3_ n4_; (try clear hb); (try clear hb2); (try clear hk); (try clear hi); (try clear ho0)))
      go_ret2
      exact ⟨_, _, by first | rfl | (simp [errW_none, errW_some] <;> rfl) | (simp only [← hji14, ← hji19, ← hji23]; first | rfl | (simp [errW_none, errW_some] <;> rfl)) | (simp [*, errW_none, errW_some] <;> rfl), by (with_reducible repeat (first | apply rN | apply rD)); exact Kd.R_mono HO375.out (fun _ hk => hk.1.1), Kd.V_mono (Kd.R_V (by (with_reducible repeat (first | apply rN | apply rD)); exact Kd.R_mono HO381.out (fun _ hk => (And.intro (hk.1.1.1.1) (hk.1.2))))) (fun k_ hk => by first | exact ⟨(.inr (hk.1)), hk.2⟩ | exact (.inr (hk))), by apply_rules [HB.out, bA, pN, bD]⟩
def nat_Nat_Int.f (l0 : List Int) : Option (Int × Bool) := if (l0.length : Int) = 0 then (some (0, true)) else (if (l0.length : Int) > 1 then (some (0, false)) else (if 0 < (l0.length : Int) then (if (rd l0 0) ≥ 9223372036854775808 then (some (0, false)) else (some (wrap64 (rd l0 0), true))) else (none)))
theorem nat_Nat_Int.calls (A0 : Option Addr) (c0 : Nat) (l0 : List Int) (r1 : Int) (r2 : Bool) (w : World) (hr0 : Kd.C (Kd.int .u64) w A0 l0.length l0) (hc0 : l0.length ≤ c0) (h : nat_Nat_Int.f l0 = some (r1, r2)) :
  Calls Try.prog 25 #[.slice A0 l0.length c0] w fun e w' => e = .returned (.tuple #[.int .i64 r1, .bool r2]) ∧ Drawn0 w w' := by
 have HR0 := aM hr0
 have HC0 := aM hc0
 clear hr0 hc0
 have H : (if (l0.length : Int) = 0 then (some (0, true)) else (if (l0.length : Int) > 1 then (some (0, false)) else (if 0 < (l0.length : Int) then (if (rd l0 0) ≥ 9223372036854775808 then (some (0, false)) else (some (wrap64 (rd l0 0), true))) else (none)))) = some (r1, r2) := h
 clear h
 by_cases c2 : (l0.length : Int) = 0
 ·rw [if_pos c2] at H
  have c2b0 : ((l0.length : Int) == 0) = true := beq_iff_eq.mpr c2
  have c2b1 : ((l0.length : Int) != 0) = false := bne_eq_false_iff_eq.mpr c2
  clear c2
  simp only [Option.some.injEq, Prod.mk.injEq] at H
  obtain ⟨rfl, rfl⟩ := H
  go_enter Try.func25, Try.ntmps25
  go_wp2
  go_ret2
  exact ⟨by first | rfl | (simp; done) | (simp [*]; done), by repeat (first | exact Drawn0.refl _ | apply Drawn0.step)⟩
 ·rw [if_neg c2] at H
  have c2b0 : ((l0.length : Int) == 0) = false := beq_eq_false_iff_ne.mpr c2
  have c2b1 : ((l0.length : Int) != 0) = true := bne_iff_ne.mpr c2
  have c2b2 : ¬ (l0 = []) := fun h_ => c2 (by rw [h_]; rfl)
  by_cases c3 : (l0.length : Int) > 1
  ·rw [if_pos c3] at H
   have c3b0 : decide (1 < (l0.length : Int)) = true := dT c3
   have c3b1 : decide (1 < l0.length) = true := dT (by omega)
   clear c3
   simp only [Option.some.injEq, Prod.mk.injEq] at H
   obtain ⟨rfl, rfl⟩ := H
   go_enter Try.func25, Try.ntmps25
   go_wp2
   go_ret2
   exact ⟨by first | rfl | (simp; done) | (simp [*]; done), by repeat (first | exact Drawn0.refl _ | apply Drawn0.step)⟩
  ·rw [if_neg c3] at H
   have c3b0 : decide (1 < (l0.length : Int)) = false := decide_eq_false c3
   have c3b1 : decide (1 < l0.length) = false := decide_eq_false (by omega)
   clear c3
   by_cases c4 : 0 < (l0.length : Int)
   rotate_left
   ·rw [if_neg c4] at H; cases H
   rw [if_pos c4] at H
   have c4b0 : decide (0 < (l0.length : Int)) = true := dT c4
   have c4b1 : decide (0 < l0.length) = true := dT (by omega)
   clear c4
   by_cases c5 : (rd l0 0) ≥ 9223372036854775808
   ·rw [if_pos c5] at H
    have c5b0 : decide (9223372036854775808 ≤ (rd l0 0)) = true := dT c5
    clear c5
    simp only [Option.some.injEq, Prod.mk.injEq] at H
    obtain ⟨rfl, rfl⟩ := H
    have p389 : 0 ≤ (0 : Int) := (by omega)
    have q389 : 0 < (l0.length : Int) := oD (by first | (with_reducible assumption) | assumption)
    obtain ⟨ad389, e389, hx389_0⟩ := Kd.at_int HR0.out 0 p389 q389
    cases e389
    have qi389 : (0 < l0.length) = True := eq_true (by omega)
    (try rw [show ((0 : Int)).toNat = 0 from rfl] at hx389_0)
    (try rw [Addr.add_zero'] at hx389_0)
    replace p389 := eq_true p389
    replace q389 := eq_true q389
    go_enter Try.func25, Try.ntmps25
    go_wp2
    go_ret2
    exact ⟨by first | rfl | (simp; done) | (simp [*]; done), by repeat (first | exact Drawn0.refl _ | apply Drawn0.step)⟩
   ·rw [if_neg c5] at H
    have c5b0 : decide (9223372036854775808 ≤ (rd l0 0)) = false := decide_eq_false c5
    clear c5
    simp only [Option.some.injEq, Prod.mk.injEq] at H
    obtain ⟨rfl, rfl⟩ := H
    have p389 : 0 ≤ (0 : Int) := (by omega)
    have q389 : 0 < (l0.length : Int) := oD (by first | (with_reducible assumption) | assumption)
    obtain ⟨ad389, e389, hx389_0⟩ := Kd.at_int HR0.out 0 p389 q389
    cases e389
    have qi389 : (0 < l0.length) = True := eq_true (by omega)
    (try rw [show ((0 : Int)).toNat = 0 from rfl] at hx389_0)
    (try rw [Addr.add_zero'] at hx389_0)
    replace p389 := eq_true p389
    replace q389 := eq_true q389
    have p390 : 0 ≤ (0 : Int) := (by omega)
    have q390 : 0 < (l0.length : Int) := oD (by first | (with_reducible assumption) | assumption)
    obtain ⟨ad390, e390, hx390_0⟩ := Kd.at_int HR0.out 0 p390 q390
    obtain rfl : ad389 = ad390 := (by injection e390)
    have qi390 : (0 < l0.length) = True := eq_true (by omega)
    (try rw [show ((0 : Int)).toNat = 0 from rfl] at hx390_0)
    (try rw [Addr.add_zero'] at hx390_0)
    replace p390 := eq_true p390
    replace q390 := eq_true q390
    go_enter Try.func25, Try.ntmps25
    go_wp2
    go_ret2
    exact ⟨by first | rfl | (simp; done) | (simp [*]; done), by repeat (first | exact Drawn0.refl _ | apply Drawn0.step)⟩
end Go.Proofs.Ytaoekkikpceccaa.QLoadAdmitKeepsTheLimit
