/- Lean functions that answer as the Go functions of this seat do, each with the proof of that; the text was written by a program of ours, a changed copy of the kit's print. Condition of each proof: the Lean function answers 'some'. -/
import Derived.Test.YtjfldeoddjicoaaLx0
import Derived.Test.YtjfldeoddjicoaaLx1
namespace Go.Proofs.Ytjfldeoddjicoaa.QLoadCountAddsUp
open Go.RowKit Go.Proofs.YtjfldeoddjicoaaW.PrintWords Go.Proofs.YtjfldeoddjicoaaW.PrintLast Go.Proofs.YtjfldeoddjicoaaW.PrintMore
open Go.Proofs.YtjfldeoddjicoaaW.PrintWords.Kd renaming R_drewN → rN, R_drew → rD
open Go.Proofs.YtjfldeoddjicoaaW.PrintWords renaming pw_below_drewN → pN, below_drew1 → bD, below_alloc → bA, blk_drewN → kN, blk_alloc → kA, blk_drew → kD, below_step → bS, gate_callee → gC
open Go.Proofs.YtjfldeoddjicoaaW.PrintLast renaming goesL_ → gL
open List renaming setIfInBounds_toArray → sI, set_cons_zero → sZ, set_cons_succ → sS, map_toArray → mA
attribute [local go_sem] min2_int min_two
set_option linter.unusedVariables false
set_option linter.unusedSimpArgs false
mutual
def nat_Add.l0 : Nat → List Int → List Int → List Int → Int → Int → Int → Option (List Int)
 | 0, _, _, _, _, _, _ => none
 | k + 1, x0, x1, x5, x6, x21, x22 => if x22 < x21 then (if x22 < (x1.length : Int) then (if 0 ≤ x22 then (if x22 < (x0.length : Int) then (if 0 ≤ (rd x0 x22) then (if 0 ≤ (rd x1 x22) then (if 0 ≤ x6 then (if x6 ≤ 1 then (if x22 < (x5.length : Int) then (nat_Add.l0 k x0 x1 (x5.set (x22 : Int).toNat (((rd x0 x22) + (rd x1 x22) + x6) % 18446744073709551616)) (((rd x0 x22) + (rd x1 x22) + x6) / 18446744073709551616) x21 (wrap64 (x22 + 1))) else (none)) else (none)) else (none)) else (none)) else (none)) else (none)) else (none)) else (if 0 ≤ x22 then (if x22 < (x0.length : Int) then (if 0 ≤ (rd x0 x22) then (if 0 ≤ x6 then (if x6 ≤ 1 then (if x22 < (x5.length : Int) then (nat_Add.l0 k x0 x1 (x5.set (x22 : Int).toNat (((rd x0 x22) + x6) % 18446744073709551616)) (((rd x0 x22) + x6) / 18446744073709551616) x21 (wrap64 (x22 + 1))) else (none)) else (none)) else (none)) else (none)) else (none)) else (none))) else (if 0 ≤ (x0.length : Int) then (if (x0.length : Int) < (x5.length : Int) then ((nat_cut.f k (x5.set ((x0.length : Int) : Int).toNat x6)).bind fun t119 => (some t119)) else (none)) else (none))
def nat_Add.l100 : Nat → List Int → List Int → List Int → Int → Int → Int → Option (List Int)
 | 0, _, _, _, _, _, _ => none
 | k + 1, x0, x1, x5, x6, x21, x22 => if x22 < x21 then (if x22 < (x1.length : Int) then (if 0 ≤ x22 then (if x22 < (x0.length : Int) then (if 0 ≤ (rd x0 x22) then (if 0 ≤ (rd x1 x22) then (if 0 ≤ x6 then (if x6 ≤ 1 then (if x22 < (x5.length : Int) then (nat_Add.l100 k x0 x1 (x5.set (x22 : Int).toNat (((rd x0 x22) + (rd x1 x22) + x6) % 18446744073709551616)) (((rd x0 x22) + (rd x1 x22) + x6) / 18446744073709551616) x21 (wrap64 (x22 + 1))) else (none)) else (none)) else (none)) else (none)) else (none)) else (none)) else (none)) else (if 0 ≤ x22 then (if x22 < (x0.length : Int) then (if 0 ≤ (rd x0 x22) then (if 0 ≤ x6 then (if x6 ≤ 1 then (if x22 < (x5.length : Int) then (nat_Add.l100 k x0 x1 (x5.set (x22 : Int).toNat (((rd x0 x22) + x6) % 18446744073709551616)) (((rd x0 x22) + x6) / 18446744073709551616) x21 (wrap64 (x22 + 1))) else (none)) else (none)) else (none)) else (none)) else (none)) else (none))) else (if 0 ≤ (x0.length : Int) then (if (x0.length : Int) < (x5.length : Int) then ((nat_cut.f k (x5.set ((x0.length : Int) : Int).toNat x6)).bind fun t131 => (some t131)) else (none)) else (none))
end
def nat_Add.f (k : Nat) (l0 : List Int) (l1 : List Int) : Option (List Int) := if (l0.length : Int) < (l1.length : Int) then (if 0 ≤ (wrap64 ((l1.length : Int) + 1)) then (if (wrap64 ((l1.length : Int) + 1) : Int).toNat ≤ 35184372088832 then (nat_Add.l0 k l1 l0 (List.replicate (wrap64 ((l1.length : Int) + 1) : Int).toNat 0) 0 (l1.length : Int) 0) else (none)) else (none)) else (if 0 ≤ (wrap64 ((l0.length : Int) + 1)) then (if (wrap64 ((l0.length : Int) + 1) : Int).toNat ≤ 35184372088832 then (nat_Add.l100 k l0 l1 (List.replicate (wrap64 ((l0.length : Int) + 1) : Int).toNat 0) 0 (l0.length : Int) 0) else (none)) else (none))
theorem nat_Add.mono_l : ∀ k, (∀ y0 y1 y2 y3 y4 y5, LeO (nat_Add.l0 k y0 y1 y2 y3 y4 y5) (nat_Add.l0 (k + 1) y0 y1 y2 y3 y4 y5)) ∧ (∀ y0 y1 y2 y3 y4 y5, LeO (nat_Add.l100 k y0 y1 y2 y3 y4 y5) (nat_Add.l100 (k + 1) y0 y1 y2 y3 y4 y5))
 | 0 => ⟨fun _ _ _ _ _ _ r h => by simp [nat_Add.l0] at h, fun _ _ _ _ _ _ r h => by simp [nat_Add.l100] at h⟩
 | k + 1 => by
  obtain ⟨ih0, ih1⟩ := nat_Add.mono_l k
  refine ⟨?_, ?_⟩
  ·intro y0 y1 y2 y3 y4 y5
   unfold nat_Add.l0
   repeat' first
   | (with_reducible exact ih0 _ _ _ _ _ _)
   | (with_reducible exact ih1 _ _ _ _ _ _)
   | (with_reducible exact nat_cut.mono _ _)
   | (with_reducible exact LeO.refl _)
   | (with_reducible exact LeO.none _)
   | (with_reducible refine LeO.ite ?_ ?_)
   | (with_reducible refine LeO.bind ?_ (fun _ => ?_))
   | exact ih0 _ _ _ _ _ _
   | exact ih1 _ _ _ _ _ _
   | exact nat_cut.mono _ _
   | exact LeO.none _
   | refine LeO.ite ?_ ?_
   | refine LeO.bind ?_ (fun _ => ?_)
  ·intro y0 y1 y2 y3 y4 y5
   unfold nat_Add.l100
   repeat' first
   | (with_reducible exact ih0 _ _ _ _ _ _)
   | (with_reducible exact ih1 _ _ _ _ _ _)
   | (with_reducible exact nat_cut.mono _ _)
   | (with_reducible exact LeO.refl _)
   | (with_reducible exact LeO.none _)
   | (with_reducible refine LeO.ite ?_ ?_)
   | (with_reducible refine LeO.bind ?_ (fun _ => ?_))
   | exact ih0 _ _ _ _ _ _
   | exact ih1 _ _ _ _ _ _
   | exact nat_cut.mono _ _
   | exact LeO.none _
   | refine LeO.ite ?_ ?_
   | refine LeO.bind ?_ (fun _ => ?_)
theorem nat_Add.mono : ∀ a0 a1 k, LeO (nat_Add.f k a0 a1) (nat_Add.f (k + 1) a0 a1) := by
 intro a0 a1 k
 obtain ⟨ih0, ih1⟩ := nat_Add.mono_l k
 unfold nat_Add.f
 repeat' first
   | (with_reducible exact ih0 _ _ _ _ _ _)
   | (with_reducible exact ih1 _ _ _ _ _ _)
   | (with_reducible exact nat_cut.mono _ _)
   | (with_reducible exact LeO.refl _)
   | (with_reducible exact LeO.none _)
   | (with_reducible refine LeO.ite ?_ ?_)
   | (with_reducible refine LeO.bind ?_ (fun _ => ?_))
   | exact ih0 _ _ _ _ _ _
   | exact ih1 _ _ _ _ _ _
   | exact nat_cut.mono _ _
   | exact LeO.none _
   | refine LeO.ite ?_ ?_
   | refine LeO.bind ?_ (fun _ => ?_)
set_option maxHeartbeats 8000000 in
set_option maxRecDepth 100000 in
theorem nat_Add.calls (k : Nat) (A0 : Option Addr) (c0 : Nat) (l0 : List Int) (A1 : Option Addr) (c1 : Nat) (l1 : List Int) (r : List Int) (w : World) (hr0 : Kd.C (Kd.int .u64) w A0 l0.length l0) (hc0 : l0.length ≤ c0) (hr1 : Kd.C (Kd.int .u64) w A1 l1.length l1) (hc1 : l1.length ≤ c1) (h : nat_Add.f k l0 l1 = some r) :
  Calls Try.prog 49 #[.slice A0 l0.length c0, .slice A1 l1.length c1] w fun e w' => ∃ v0_ : Value, e = .returned (v0_) ∧ Kd.R (Kd.int .u64) 85 w' w.heap.size (fun _ => True) v0_ r ∧ Below w.heap.size w w' := by
 have HR0 := aM hr0
 have HC0 := aM hc0
 clear hr0 hc0
 have HR1 := aM hr1
 have HC1 := aM hc1
 clear hr1 hc1
 have HB := aM (Below.refl w.heap.size w)
 have H : (if (l0.length : Int) < (l1.length : Int) then (if 0 ≤ (wrap64 ((l1.length : Int) + 1)) then (if (wrap64 ((l1.length : Int) + 1) : Int).toNat ≤ 35184372088832 then (nat_Add.l0 k l1 l0 (List.replicate (wrap64 ((l1.length : Int) + 1) : Int).toNat 0) 0 (l1.length : Int) 0) else (none)) else (none)) else (if 0 ≤ (wrap64 ((l0.length : Int) + 1)) then (if (wrap64 ((l0.length : Int) + 1) : Int).toNat ≤ 35184372088832 then (nat_Add.l100 k l0 l1 (List.replicate (wrap64 ((l0.length : Int) + 1) : Int).toNat 0) 0 (l0.length : Int) 0) else (none)) else (none))) = some r := h
 clear h
 by_cases c3 : (l0.length : Int) < (l1.length : Int)
 ·rw [if_pos c3] at H
  have c3b0 : decide ((l0.length : Int) < (l1.length : Int)) = true := dT c3
  have c3b1 : decide (l0.length < l1.length) = true := dT (Int.ofNat_lt.mp c3)
  clear c3
  obtain ⟨ji4, hji4⟩ : ∃ j_ : Int, (wrap64 ((l1.length : Int) + 1)) = j_ := ⟨_, rfl⟩
  replace H : (if 0 ≤ (ji4) then (if (ji4 : Int).toNat ≤ 35184372088832 then (nat_Add.l0 k l1 l0 (List.replicate (ji4 : Int).toNat 0) 0 (l1.length : Int) 0) else (none)) else (none)) = some r := by first | (rw [hji4] at H; exact H) | (simp only [hji4] at H ⊢; exact H)
  have hji4w : (IntKind.i64.wrap ((l1.length : Int) + 1)) = ji4 := (i64_w _).trans hji4
  by_cases c5 : 0 ≤ (ji4)
  ·rw [if_pos c5] at H
   have c5b0 := eq_true c5
   have c5b1 : decide (0 ≤ (ji4)) = true := dT c5
   clear c5
   by_cases c6 : (ji4 : Int).toNat ≤ 35184372088832
   ·rw [if_pos c6] at H
    have c6b0 := eq_true c6
    have c6b1 : decide ((ji4 : Int).toNat ≤ 35184372088832) = true := dT c6
    clear c6
    obtain ⟨y110, hy110⟩ : ∃ y_ : List Int, y_ = (List.replicate (ji4 : Int).toNat 0) := ⟨_, rfl⟩
    replace H : (nat_Add.l0 k l1 l0 y110 0 (l1.length : Int) 0) = some r := by first | (rw [hy110]; with_reducible exact H) | (have H2_ := (Option.bind_some _ _).symm.trans H; rw [hy110]; with_reducible exact H2_) | (have H2_ := (Option.bind_some _ _).symm.trans H; with_reducible exact H2_) | with_reducible exact H | (rw [hy110]; exact H) | exact H
    have Ny110 := aM hy110
    clear hy110; have H' := aM H; clear H
    go_enter Try.func49, Try.ntmps49
    go_wp2_with (first | ((with_reducible refine gate_dst (N := 19) rfl ?_); refine Kd.R_make (Kd.int .u64) _ 85 rfl (N := 19) rfl 98 _ _ rfl ji4 rfl rfl Try.underlying98 (.int .u64 0) 8 info85 rfl (by decide) (by omega) 0 (ok := fun _ => True) (okp := fun _ => True) rfl (fun _ hk => hk) trivial (oD (by first | (with_reducible assumption) | assumption)) (Nat.le_trans (Nat.mul_le_mul_right _ (oD (by first | (with_reducible assumption) | assumption) : ji4.toNat ≤ 35184372088832)) (by omega)) (Below.refl _ _) (Nat.le_refl _) ?_; intro v111 w7 ho8 hb hg_ hnew_; clear hg_ hnew_; (first | rw [← Ny110.out] at ho8 | (simp only [Int.reduceToNat] at ho8; rw [← Ny110.out] at ho8)); have n0_ := aM (Kd.R_lower ho8 (below_size (by repeat (first | (with_reducible first | exact HB.out | apply bA | apply pN | apply bD) | exact HB.out)))); have n1_ := aM (bS (by repeat (first | (with_reducible first | exact HB.out | apply bA | apply pN | apply bD) | exact HB.out)) hb); clear HB; have HO112 := n0_; have HB := n1_; clear n0_ n1_ hb ho8))
    go_loopg [6, 22] k (fun kq v6 v22 w' => ∃ (x5_1 : List Int) (x6_1 : Int) (x22_1 : Int), v6 = .int .u64 x6_1 ∧ v22 = .int .i64 x22_1 ∧ Aside0 (nat_Add.l0 kq l1 l0 x5_1 x6_1 (l1.length : Int) x22_1 = some r) ∧ Aside0 (kq ≤ k) ∧ Aside0 (Kd.R (Kd.int .u64) 85 w' w.heap.size (fun _ => True) v111 x5_1) ∧ Aside0 (Below w.heap.size w w'))
    case atStart => exact ⟨(y110), (0), (0), (by first | rfl | (simp; done) | (simp [*]; done)), (by first | rfl | (simp; done) | (simp [*]; done)), H', ⟨Nat.le_refl _⟩, ⟨by (with_reducible repeat (first | apply rA | apply rN | apply rD)); exact HO112.out⟩, ⟨by repeat (first | (with_reducible first | exact HB.out | apply bA | apply pN | apply bD) | exact HB.out)⟩⟩
    case round =>
     clear H'
     try clear c1
     try clear p2
     try clear c3
     try clear c3b0
     try clear c3b1
     try clear c4
     try clear c5
     try clear c5b0
     try clear c5b1
     try clear c6
     try clear c6b0
     try clear c6b1
     try clear p6
     obtain ⟨x5_1, x6_1, x22_1, rfl, rfl, HA, HK1, HO_5, HB⟩ := hrel
     cases gk with
     | zero => exact absurd HA.out (by simp [nat_Add.l0])
     | succ k1 =>
      have H := HA.out
      clear HA
      simp only [nat_Add.l0] at H
      by_cases c9 : x22_1 < (l1.length : Int)
      ·rw [if_pos c9] at H
       have c9b0 : decide (x22_1 < (l1.length : Int)) = true := dT c9
       clear c9
       by_cases c10 : x22_1 < (l0.length : Int)
       ·rw [if_pos c10] at H
        have c10b0 : decide (x22_1 < (l0.length : Int)) = true := dT c10
        clear c10
        by_cases c11 : 0 ≤ x22_1
        ·rw [if_pos c11] at H
         have c11b0 : decide (0 ≤ x22_1) = true := dT c11
         clear c11
         by_cases c12 : x22_1 < (l1.length : Int)
         ·rw [if_pos c12] at H
          have c12b0 : decide (x22_1 < (l1.length : Int)) = true := dT c12
          clear c12
          by_cases c13 : 0 ≤ (rd l1 x22_1)
          ·rw [if_pos c13] at H
           have c13b0 := eq_true c13
           have c13b1 : decide (0 ≤ (rd l1 x22_1)) = true := dT c13
           clear c13
           by_cases c14 : 0 ≤ (rd l0 x22_1)
           ·rw [if_pos c14] at H
            have c14b0 := eq_true c14
            have c14b1 : decide (0 ≤ (rd l0 x22_1)) = true := dT c14
            clear c14
            by_cases c15 : 0 ≤ x6_1
            ·rw [if_pos c15] at H
             have c15b0 := eq_true c15
             have c15b1 : decide (0 ≤ x6_1) = true := dT c15
             clear c15
             by_cases c16 : x6_1 ≤ 1
             ·rw [if_pos c16] at H
              have c16b0 := eq_true c16
              have c16b1 : decide (x6_1 ≤ 1) = true := dT c16
              clear c16
              have hx17 := fun w_ => call_add64_72 (rd l1 x22_1) (rd l0 x22_1) x6_1 (oD (by first | decide | (with_reducible assumption) | assumption | (simp only [decide_eq_true_eq]; omega))) (oD (by first | decide | (with_reducible assumption) | assumption | (simp only [decide_eq_true_eq]; omega))) (oD (by first | decide | (with_reducible assumption) | assumption | (simp only [decide_eq_true_eq]; omega))) (oD (by first | decide | (with_reducible assumption) | assumption | (simp only [decide_eq_true_eq]; omega))) w_
              by_cases c18 : x22_1 < (x5_1.length : Int)
              ·rw [if_pos c18] at H
               have c18b0 : decide (x22_1 < (x5_1.length : Int)) = true := dT c18
               clear c18
               obtain ⟨y115, hy115⟩ : ∃ y_ : List Int, y_ = (x5_1.set (x22_1 : Int).toNat (((rd l1 x22_1) + (rd l0 x22_1) + x6_1) % 18446744073709551616)) := ⟨_, rfl⟩
               replace H : (nat_Add.l0 k1 l1 l0 y115 (((rd l1 x22_1) + (rd l0 x22_1) + x6_1) / 18446744073709551616) (l1.length : Int) (wrap64 (x22_1 + 1))) = some r := by first | (rw [hy115]; with_reducible exact H) | (have H2_ := (Option.bind_some _ _).symm.trans H; rw [hy115]; with_reducible exact H2_) | (have H2_ := (Option.bind_some _ _).symm.trans H; with_reducible exact H2_) | with_reducible exact H | (rw [hy115]; exact H) | exact H
               have Ny115 := aM hy115
               clear hy115; have H' := aM H; clear H
               have p113 : 0 ≤ (x22_1 : Int) := oD (by first | (with_reducible assumption) | assumption)
               have q113 : x22_1 < (l0.length : Int) := oD (by first | (with_reducible assumption) | assumption)
               obtain ⟨ad113, e113, hx113_0⟩ := Kd.at_int HR0.out x22_1 p113 q113
               cases e113
               replace hx113_0 := (HB.out.cell (World.block_lt_of_cell? w _ hx113_0)).trans hx113_0
               replace p113 := eq_true p113
               replace q113 := eq_true q113
               have p114 : 0 ≤ (x22_1 : Int) := oD (by first | (with_reducible assumption) | assumption)
               have q114 : x22_1 < (l1.length : Int) := oD (by first | (with_reducible assumption) | assumption)
               obtain ⟨ad114, e114, hx114_0⟩ := Kd.at_int HR1.out x22_1 p114 q114
               cases e114
               replace hx114_0 := (HB.out.cell (World.block_lt_of_cell? w _ hx114_0)).trans hx114_0
               replace p114 := eq_true p114
               replace q114 := eq_true q114
               have p19 : 0 ≤ (x22_1 : Int) := oD (by first | (with_reducible assumption) | assumption)
               have q19 : (x22_1 : Int) < ((x5_1.length : Int) : Int) := oD (by first | (with_reducible assumption) | assumption)
               obtain ⟨go19, co19, eo19, gb19, gl19, cl19, HG19⟩ := Kd.R_form HO_5.out (by omega)
               (first | cases eo19 | (injection eo19 with ea_ en_ ec_; (first | subst ea_ | (injection ea_ with ea_; subst ea_)); subst ec_; clear en_))
               have GB19 := aM gb19
               have GG19 := aM HG19
               clear gb19 gl19 HG19
               obtain ⟨hx19_0, hf19_0⟩ := Kd.R_celln 0 HO_5.out (x22_1 : Int) p19 q19
               replace p19 := eq_true p19
               replace q19 := eq_true q19
               have HP20 := Kd.R_putg HO_5.out (x22_1 : Int) (((rd l1 x22_1) + (rd l0 x22_1) + x6_1) % 18446744073709551616)
               go_wp2_with (first | ((with_reducible refine gate_store (t := 85) (p := 45) rfl ?_); refine store_event (t := 85) (p := 45) (v := ?vo_w21) (w1 := (wr.setCell ⟨go19, (x22_1 : Int).toNat, none⟩ (.int .u64 (((rd l1 x22_1) + (rd l0 x22_1) + x6_1) % 18446744073709551616)))) ?hg ?ho ?hn ?hr ?_; (case ho => rfl); (case hg => rfl); (case hn => rfl); (case hr => first | (go_simp; done) | (go_simp; rfl)); intro w21 hw; have hg : wr.grownBy w21 (some go19) := (by rw [hw]; exact HP20.2); have hp_ : Kd.R (Kd.int .u64) 85 w21 w.heap.size (fun _ => True) (.slice (some ⟨go19, 0, none⟩) x5_1.length co19) y115 := (by rw [hw, Ny115.out]; exact HP20.1); clear HP20; have n0_ := aM (hp_); have n1_ := aM ((by rw [hw]; exact below_set (HB.out) GB19.out : Below w.heap.size w w21)); clear HO_5 HB; have HO_5 := n0_; have HB := n1_; clear n0_ n1_ hg hw hp_))
               go_roundg k1
               case measure => have := HK1.out; omega
               case rel => exact ⟨(y115), (((rd l1 x22_1) + (rd l0 x22_1) + x6_1) / 18446744073709551616), (wrap64 (x22_1 + 1)), (by first | rfl | (simp; done) | (simp [*]; done)), (by first | rfl | (simp; done) | (simp [*]; done)), (by first | exact H' | (have h_ := H'; simp only [← hji4] at h_; exact h_)), ⟨by have := HK1.out; omega⟩, ⟨by (with_reducible repeat (first | apply rA | apply rN | apply rD)); exact HO_5.out⟩, ⟨by repeat (first | (with_reducible first | exact HB.out | apply bA | apply pN | apply bD) | exact HB.out)⟩⟩
              ·rw [if_neg c18] at H
               exact absurd H (by simp)
             ·rw [if_neg c16] at H
              exact absurd H (by simp)
            ·rw [if_neg c15] at H
             exact absurd H (by simp)
           ·rw [if_neg c14] at H
            exact absurd H (by simp)
          ·rw [if_neg c13] at H
           exact absurd H (by simp)
         ·rw [if_neg c12] at H
          exact absurd H (by simp)
        ·rw [if_neg c11] at H
         exact absurd H (by simp)
       ·rw [if_neg c10] at H
        have c10b0 : decide (x22_1 < (l0.length : Int)) = false := decide_eq_false c10
        clear c10
        by_cases c22 : 0 ≤ x22_1
        ·rw [if_pos c22] at H
         have c22b0 : decide (0 ≤ x22_1) = true := dT c22
         clear c22
         by_cases c23 : x22_1 < (l1.length : Int)
         ·rw [if_pos c23] at H
          have c23b0 : decide (x22_1 < (l1.length : Int)) = true := dT c23
          clear c23
          by_cases c24 : 0 ≤ (rd l1 x22_1)
          ·rw [if_pos c24] at H
           have c24b0 := eq_true c24
           have c24b1 : decide (0 ≤ (rd l1 x22_1)) = true := dT c24
           clear c24
           by_cases c25 : 0 ≤ x6_1
           ·rw [if_pos c25] at H
            have c25b0 := eq_true c25
            have c25b1 : decide (0 ≤ x6_1) = true := dT c25
            clear c25
            by_cases c26 : x6_1 ≤ 1
            ·rw [if_pos c26] at H
             have c26b0 := eq_true c26
             have c26b1 : decide (x6_1 ≤ 1) = true := dT c26
             clear c26
             have hx27 := fun w_ => call_add64_72 (rd l1 x22_1) 0 x6_1 (oD (by first | decide | (with_reducible assumption) | assumption | (simp only [decide_eq_true_eq]; omega))) (oD (by first | decide | (with_reducible assumption) | assumption | (simp only [decide_eq_true_eq]; omega))) (oD (by first | decide | (with_reducible assumption) | assumption | (simp only [decide_eq_true_eq]; omega))) (oD (by first | decide | (with_reducible assumption) | assumption | (simp only [decide_eq_true_eq]; omega))) w_
             by_cases c28 : x22_1 < (x5_1.length : Int)
             ·rw [if_pos c28] at H
              have c28b0 : decide (x22_1 < (x5_1.length : Int)) = true := dT c28
              clear c28
              obtain ⟨y117, hy117⟩ : ∃ y_ : List Int, y_ = (x5_1.set (x22_1 : Int).toNat (((rd l1 x22_1) + x6_1) % 18446744073709551616)) := ⟨_, rfl⟩
              replace H : (nat_Add.l0 k1 l1 l0 y117 (((rd l1 x22_1) + x6_1) / 18446744073709551616) (l1.length : Int) (wrap64 (x22_1 + 1))) = some r := by first | (rw [hy117]; with_reducible exact H) | (have H2_ := (Option.bind_some _ _).symm.trans H; rw [hy117]; with_reducible exact H2_) | (have H2_ := (Option.bind_some _ _).symm.trans H; with_reducible exact H2_) | with_reducible exact H | (rw [hy117]; exact H) | exact H
              have Ny117 := aM hy117
              clear hy117; have H' := aM H; clear H
              have p116 : 0 ≤ (x22_1 : Int) := oD (by first | (with_reducible assumption) | assumption)
              have q116 : x22_1 < (l1.length : Int) := oD (by first | (with_reducible assumption) | assumption)
              obtain ⟨ad116, e116, hx116_0⟩ := Kd.at_int HR1.out x22_1 p116 q116
              cases e116
              replace hx116_0 := (HB.out.cell (World.block_lt_of_cell? w _ hx116_0)).trans hx116_0
              replace p116 := eq_true p116
              replace q116 := eq_true q116
              have p29 : 0 ≤ (x22_1 : Int) := oD (by first | (with_reducible assumption) | assumption)
              have q29 : (x22_1 : Int) < ((x5_1.length : Int) : Int) := oD (by first | (with_reducible assumption) | assumption)
              obtain ⟨go29, co29, eo29, gb29, gl29, cl29, HG29⟩ := Kd.R_form HO_5.out (by omega)
              (first | cases eo29 | (injection eo29 with ea_ en_ ec_; (first | subst ea_ | (injection ea_ with ea_; subst ea_)); subst ec_; clear en_))
              have GB29 := aM gb29
              have GG29 := aM HG29
              clear gb29 gl29 HG29
              obtain ⟨hx29_0, hf29_0⟩ := Kd.R_celln 0 HO_5.out (x22_1 : Int) p29 q29
              replace p29 := eq_true p29
              replace q29 := eq_true q29
              have HP30 := Kd.R_putg HO_5.out (x22_1 : Int) (((rd l1 x22_1) + x6_1) % 18446744073709551616)
              go_wp2_with (first | ((with_reducible refine gate_store (t := 85) (p := 45) rfl ?_); refine store_event (t := 85) (p := 45) (v := ?vo_w31) (w1 := (wr.setCell ⟨go29, (x22_1 : Int).toNat, none⟩ (.int .u64 (((rd l1 x22_1) + x6_1) % 18446744073709551616)))) ?hg ?ho ?hn ?hr ?_; (case ho => rfl); (case hg => rfl); (case hn => rfl); (case hr => first | (go_simp; done) | (go_simp; rfl)); intro w31 hw; have hg : wr.grownBy w31 (some go29) := (by rw [hw]; exact HP30.2); have hp_ : Kd.R (Kd.int .u64) 85 w31 w.heap.size (fun _ => True) (.slice (some ⟨go29, 0, none⟩) x5_1.length co29) y117 := (by rw [hw, Ny117.out]; exact HP30.1); clear HP30; have n0_ := aM (hp_); have n1_ := aM ((by rw [hw]; exact below_set (HB.out) GB29.out : Below w.heap.size w w31)); clear HO_5 HB; have HO_5 := n0_; have HB := n1_; clear n0_ n1_ hg hw hp_))
              go_roundg k1
              case measure => have := HK1.out; omega
              case rel => exact ⟨(y117), (((rd l1 x22_1) + x6_1) / 18446744073709551616), (wrap64 (x22_1 + 1)), (by first | rfl | (simp; done) | (simp [*]; done)), (by first | rfl | (simp; done) | (simp [*]; done)), (by first | exact H' | (have h_ := H'; simp only [← hji4] at h_; exact h_)), ⟨by have := HK1.out; omega⟩, ⟨by (with_reducible repeat (first | apply rA | apply rN | apply rD)); exact HO_5.out⟩, ⟨by repeat (first | (with_reducible first | exact HB.out | apply bA | apply pN | apply bD) | exact HB.out)⟩⟩
             ·rw [if_neg c28] at H
              exact absurd H (by simp)
            ·rw [if_neg c26] at H
             exact absurd H (by simp)
           ·rw [if_neg c25] at H
            exact absurd H (by simp)
          ·rw [if_neg c24] at H
           exact absurd H (by simp)
         ·rw [if_neg c23] at H
          exact absurd H (by simp)
        ·rw [if_neg c22] at H
         exact absurd H (by simp)
      ·rw [if_neg c9] at H
       have c9b0 : decide (x22_1 < (l1.length : Int)) = false := decide_eq_false c9
       clear c9
       by_cases c32 : 0 ≤ (l1.length : Int)
       ·rw [if_pos c32] at H
        have c32b0 : decide (0 ≤ (l1.length : Int)) = true := dT c32
        have c32b1 : decide (0 ≤ l1.length) = true := dT (by omega)
        clear c32
        by_cases c33 : (l1.length : Int) < (x5_1.length : Int)
        ·rw [if_pos c33] at H
         have c33b0 : decide ((l1.length : Int) < (x5_1.length : Int)) = true := dT c33
         have c33b1 : decide (l1.length < x5_1.length) = true := dT (Int.ofNat_lt.mp c33)
         clear c33
         obtain ⟨y118, hy118⟩ : ∃ y_ : List Int, y_ = (x5_1.set ((l1.length : Int) : Int).toNat x6_1) := ⟨_, rfl⟩
         replace H : ((nat_cut.f k1 y118).bind fun t119 => (some t119)) = some r := by first | (rw [hy118]; with_reducible exact H) | (have H2_ := (Option.bind_some _ _).symm.trans H; rw [hy118]; with_reducible exact H2_) | (have H2_ := (Option.bind_some _ _).symm.trans H; with_reducible exact H2_) | with_reducible exact H | (rw [hy118]; exact H) | exact H
         have Ny118 := aM hy118
         clear hy118
         replace H := oB H
         obtain ⟨t119, A350, H⟩ := H
         replace H : (some t119) = some r := H
         have A35 := aM A350; clear A350
         obtain rfl := Option.some.inj H
         have p34 : 0 ≤ ((l1.length : Int) : Int) := oD (by first | (with_reducible assumption) | assumption)
         have q34 : ((l1.length : Int) : Int) < ((x5_1.length : Int) : Int) := oD (by first | (with_reducible assumption) | assumption)
         obtain ⟨go34, co34, eo34, gb34, gl34, cl34, HG34⟩ := Kd.R_form HO_5.out (by omega)
         (first | cases eo34 | (injection eo34 with ea_ en_ ec_; (first | subst ea_ | (injection ea_ with ea_; subst ea_)); subst ec_; clear en_))
         have GB34 := aM gb34
         have GG34 := aM HG34
         clear gb34 gl34 HG34
         obtain ⟨hx34_0, hf34_0⟩ := Kd.R_celln 0 HO_5.out ((l1.length : Int) : Int) p34 q34
         (try simp only [Int.toNat_natCast] at hx34_0)
         (try simp only [Int.toNat_natCast] at hf34_0)
         replace p34 := eq_true p34
         replace q34 := eq_true q34
         have HP36 := Kd.R_putg HO_5.out ((l1.length : Int) : Int) x6_1
         go_wp2_with (first | ((with_reducible refine gate_store (t := 85) (p := 51) rfl ?_); refine store_event (t := 85) (p := 51) (v := ?vo_w37) (w1 := (wr.setCell ⟨go34, ((l1.length : Int) : Int).toNat, none⟩ (.int .u64 x6_1))) ?hg ?ho ?hn ?hr ?_; (case ho => rfl); (case hg => rfl); (case hn => rfl); (case hr => first | (go_simp; done) | (go_simp; rfl)); intro w37 hw; have hg : wr.grownBy w37 (some go34) := (by rw [hw]; exact HP36.2); have hp_ : Kd.R (Kd.int .u64) 85 w37 w.heap.size (fun _ => True) (.slice (some ⟨go34, 0, none⟩) x5_1.length co34) y118 := (by rw [hw, Ny118.out]; exact HP36.1); clear HP36; have n0_ := aM (hp_); have n1_ := aM ((by rw [hw]; exact below_set (HB.out) GB34.out : Below w.heap.size w w37)); clear HO_5 HB; have HO_5 := n0_; have HB := n1_; clear n0_ n1_ hg hw hp_) | ((with_reducible refine gC (f := 73) rfl ?_); refine gL (some 53) rfl rfl Try.func73 (by kernel_rfl) rfl #[.slice (some ⟨go34, 0, none⟩) x5_1.length co34] rfl (by (try simp only [mA, List.map_cons, List.map_nil]); first | done | rfl | (simp only [List.length_drop, List.length_take]; rfl)) ?_; (with_reducible refine (nat_cut.calls k1 (fun k_ => some k_ = (.slice (some ⟨go34, 0, none⟩) x5_1.length co34 : Value).ownBlock) (.slice (some ⟨go34, 0, none⟩) x5_1.length co34) y118 t119 w _ ?side1 ?side2 A35.out).mono ?_); (case side1 => repeat (first | (with_reducible first | exact HB.out | apply bA | apply pN | apply bD) | exact HB.out)); (case side2 => exact Kd.R_tight rfl HO_5.out); rintro e w38 ⟨v120, rfl, ho0, hb, hkp⟩; refine ⟨_, rfl, ?_⟩; have n0_ := aM (Kd.R_mono (ok' := fun k_ => True) ho0 (fun k_ hk_ => trivial)); have n1_ := aM (hb); clear HB HO_5; have HO121 := n0_; have HB := n1_; clear n0_ n1_; (try clear hb); (try clear hkp); (try clear ho0)))
         go_ret
         exact ⟨_, by first | rfl | (simp [errW_none, errW_some] <;> rfl) | (simp only [← hji4]; first | rfl | (simp [errW_none, errW_some] <;> rfl)) | (simp [*, errW_none, errW_some] <;> rfl), by (with_reducible repeat (first | apply rA | apply rN | apply rD)); exact HO121.out, by repeat (first | (with_reducible first | exact HB.out | apply bA | apply pN | apply bD) | exact HB.out)⟩
        ·rw [if_neg c33] at H
         exact absurd H (by simp)
       ·rw [if_neg c32] at H
        exact absurd H (by simp)
   ·rw [if_neg c6] at H
    exact absurd H (by simp)
  ·rw [if_neg c5] at H
   exact absurd H (by simp)
 ·rw [if_neg c3] at H
  have c3b0 : decide ((l0.length : Int) < (l1.length : Int)) = false := decide_eq_false c3
  have c3b1 : decide (l0.length < l1.length) = false := decide_eq_false (fun h => c3 (Int.ofNat_lt.mpr h))
  clear c3
  obtain ⟨ji39, hji39⟩ : ∃ j_ : Int, (wrap64 ((l0.length : Int) + 1)) = j_ := ⟨_, rfl⟩
  replace H : (if 0 ≤ (ji39) then (if (ji39 : Int).toNat ≤ 35184372088832 then (nat_Add.l100 k l0 l1 (List.replicate (ji39 : Int).toNat 0) 0 (l0.length : Int) 0) else (none)) else (none)) = some r := by first | (rw [hji39] at H; exact H) | (simp only [hji39] at H ⊢; exact H)
  have hji39w : (IntKind.i64.wrap ((l0.length : Int) + 1)) = ji39 := (i64_w _).trans hji39
  by_cases c40 : 0 ≤ (ji39)
  ·rw [if_pos c40] at H
   have c40b0 := eq_true c40
   have c40b1 : decide (0 ≤ (ji39)) = true := dT c40
   clear c40
   by_cases c41 : (ji39 : Int).toNat ≤ 35184372088832
   ·rw [if_pos c41] at H
    have c41b0 := eq_true c41
    have c41b1 : decide ((ji39 : Int).toNat ≤ 35184372088832) = true := dT c41
    clear c41
    obtain ⟨y122, hy122⟩ : ∃ y_ : List Int, y_ = (List.replicate (ji39 : Int).toNat 0) := ⟨_, rfl⟩
    replace H : (nat_Add.l100 k l0 l1 y122 0 (l0.length : Int) 0) = some r := by first | (rw [hy122]; with_reducible exact H) | (have H2_ := (Option.bind_some _ _).symm.trans H; rw [hy122]; with_reducible exact H2_) | (have H2_ := (Option.bind_some _ _).symm.trans H; with_reducible exact H2_) | with_reducible exact H | (rw [hy122]; exact H) | exact H
    have Ny122 := aM hy122
    clear hy122; have H' := aM H; clear H
    go_enter Try.func49, Try.ntmps49
    go_wp2_with (first | ((with_reducible refine gate_dst (N := 19) rfl ?_); refine Kd.R_make (Kd.int .u64) _ 85 rfl (N := 19) rfl 98 _ _ rfl ji39 rfl rfl Try.underlying98 (.int .u64 0) 8 info85 rfl (by decide) (by omega) 0 (ok := fun _ => True) (okp := fun _ => True) rfl (fun _ hk => hk) trivial (oD (by first | (with_reducible assumption) | assumption)) (Nat.le_trans (Nat.mul_le_mul_right _ (oD (by first | (with_reducible assumption) | assumption) : ji39.toNat ≤ 35184372088832)) (by omega)) (Below.refl _ _) (Nat.le_refl _) ?_; intro v123 w42 ho43 hb hg_ hnew_; clear hg_ hnew_; (first | rw [← Ny122.out] at ho43 | (simp only [Int.reduceToNat] at ho43; rw [← Ny122.out] at ho43)); have n0_ := aM (Kd.R_lower ho43 (below_size (by repeat (first | (with_reducible first | exact HB.out | apply bA | apply pN | apply bD) | exact HB.out)))); have n1_ := aM (bS (by repeat (first | (with_reducible first | exact HB.out | apply bA | apply pN | apply bD) | exact HB.out)) hb); clear HB; have HO124 := n0_; have HB := n1_; clear n0_ n1_ hb ho43))
    go_loopg [6, 22] k (fun kq v6 v22 w' => ∃ (x5_1 : List Int) (x6_1 : Int) (x22_1 : Int), v6 = .int .u64 x6_1 ∧ v22 = .int .i64 x22_1 ∧ Aside0 (nat_Add.l100 kq l0 l1 x5_1 x6_1 (l0.length : Int) x22_1 = some r) ∧ Aside0 (kq ≤ k) ∧ Aside0 (Kd.R (Kd.int .u64) 85 w' w.heap.size (fun _ => True) v123 x5_1) ∧ Aside0 (Below w.heap.size w w'))
    case atStart => exact ⟨(y122), (0), (0), (by first | rfl | (simp; done) | (simp [*]; done)), (by first | rfl | (simp; done) | (simp [*]; done)), H', ⟨Nat.le_refl _⟩, ⟨by (with_reducible repeat (first | apply rA | apply rN | apply rD)); exact HO124.out⟩, ⟨by repeat (first | (with_reducible first | exact HB.out | apply bA | apply pN | apply bD) | exact HB.out)⟩⟩
    case round =>
     clear H'
     try clear c1
     try clear p1
     try clear q1
     try clear hx1
     try clear c2
     try clear p2
     try clear q2
     try clear hx2
     try clear hf2
     try clear c3
     try clear c3b0
     try clear c3b1
     try clear p3
     try clear q3
     try clear hx3
     try clear hf3
     try clear c4
     try clear c5
     try clear c5b0
     try clear c5b1
     try clear c6
     try clear c6b0
     try clear c6b1
     try clear p6
     try clear c7
     try clear c9
     try clear c9b0
     try clear c10
     try clear c10b0
     try clear c11
     try clear c11b0
     try clear p11
     try clear q11
     try clear hx11
     try clear c12
     try clear c12b0
     try clear c13
     try clear c13b0
     try clear c13b1
     try clear c14
     try clear c14b0
     try clear c14b1
     try clear c15
     try clear c15b0
     try clear c15b1
     try clear c16
     try clear c16b0
     try clear c16b1
     try clear hx17
     try clear c18
     try clear c18b0
     try clear p19
     try clear q19
     try clear hx19
     try clear hf19
     try clear c22
     try clear c22b0
     try clear c23
     try clear c23b0
     try clear c24
     try clear c24b0
     try clear c24b1
     try clear c25
     try clear c25b0
     try clear c25b1
     try clear c26
     try clear c26b0
     try clear c26b1
     try clear hx27
     try clear c28
     try clear c28b0
     try clear p29
     try clear q29
     try clear hx29
     try clear hf29
     try clear c32
     try clear c32b0
     try clear c32b1
     try clear c33
     try clear c33b0
     try clear c33b1
     try clear p34
     try clear q34
     try clear hx34
     try clear hf34
     try clear c40
     try clear c40b0
     try clear c40b1
     try clear c41
     try clear c41b0
     try clear c41b1
     try clear hx113_0
     try clear hx114_0
     try clear hx116_0
     try clear hx19_0
     try clear hx29_0
     try clear hx34_0
     try clear p113
     try clear p114
     try clear p116
     try clear p19
     try clear p2
     try clear p29
     try clear p34
     try clear p6
     try clear q113
     try clear q114
     try clear q116
     try clear q19
     try clear q29
     try clear q34
     obtain ⟨x5_1, x6_1, x22_1, rfl, rfl, HA, HK1, HO_5, HB⟩ := hrel
     cases gk with
     | zero => exact absurd HA.out (by simp [nat_Add.l100])
     | succ k1 =>
      have H := HA.out
      clear HA
      simp only [nat_Add.l100] at H
      by_cases c44 : x22_1 < (l0.length : Int)
      ·rw [if_pos c44] at H
       have c44b0 : decide (x22_1 < (l0.length : Int)) = true := dT c44
       clear c44
       by_cases c45 : x22_1 < (l1.length : Int)
       ·rw [if_pos c45] at H
        have c45b0 : decide (x22_1 < (l1.length : Int)) = true := dT c45
        clear c45
        by_cases c46 : 0 ≤ x22_1
        ·rw [if_pos c46] at H
         have c46b0 : decide (0 ≤ x22_1) = true := dT c46
         clear c46
         by_cases c47 : x22_1 < (l0.length : Int)
         ·rw [if_pos c47] at H
          have c47b0 : decide (x22_1 < (l0.length : Int)) = true := dT c47
          clear c47
          by_cases c48 : 0 ≤ (rd l0 x22_1)
          ·rw [if_pos c48] at H
           have c48b0 := eq_true c48
           have c48b1 : decide (0 ≤ (rd l0 x22_1)) = true := dT c48
           clear c48
           by_cases c49 : 0 ≤ (rd l1 x22_1)
           ·rw [if_pos c49] at H
            have c49b0 := eq_true c49
            have c49b1 : decide (0 ≤ (rd l1 x22_1)) = true := dT c49
            clear c49
            by_cases c50 : 0 ≤ x6_1
            ·rw [if_pos c50] at H
             have c50b0 := eq_true c50
             have c50b1 : decide (0 ≤ x6_1) = true := dT c50
             clear c50
             by_cases c51 : x6_1 ≤ 1
             ·rw [if_pos c51] at H
              have c51b0 := eq_true c51
              have c51b1 : decide (x6_1 ≤ 1) = true := dT c51
              clear c51
              have hx52 := fun w_ => call_add64_72 (rd l0 x22_1) (rd l1 x22_1) x6_1 (oD (by first | decide | (with_reducible assumption) | assumption | (simp only [decide_eq_true_eq]; omega))) (oD (by first | decide | (with_reducible assumption) | assumption | (simp only [decide_eq_true_eq]; omega))) (oD (by first | decide | (with_reducible assumption) | assumption | (simp only [decide_eq_true_eq]; omega))) (oD (by first | decide | (with_reducible assumption) | assumption | (simp only [decide_eq_true_eq]; omega))) w_
              by_cases c53 : x22_1 < (x5_1.length : Int)
              ·rw [if_pos c53] at H
               have c53b0 : decide (x22_1 < (x5_1.length : Int)) = true := dT c53
               clear c53
               obtain ⟨y127, hy127⟩ : ∃ y_ : List Int, y_ = (x5_1.set (x22_1 : Int).toNat (((rd l0 x22_1) + (rd l1 x22_1) + x6_1) % 18446744073709551616)) := ⟨_, rfl⟩
               replace H : (nat_Add.l100 k1 l0 l1 y127 (((rd l0 x22_1) + (rd l1 x22_1) + x6_1) / 18446744073709551616) (l0.length : Int) (wrap64 (x22_1 + 1))) = some r := by first | (rw [hy127]; with_reducible exact H) | (have H2_ := (Option.bind_some _ _).symm.trans H; rw [hy127]; with_reducible exact H2_) | (have H2_ := (Option.bind_some _ _).symm.trans H; with_reducible exact H2_) | with_reducible exact H | (rw [hy127]; exact H) | exact H
               have Ny127 := aM hy127
               clear hy127; have H' := aM H; clear H
               have p125 : 0 ≤ (x22_1 : Int) := oD (by first | (with_reducible assumption) | assumption)
               have q125 : x22_1 < (l1.length : Int) := oD (by first | (with_reducible assumption) | assumption)
               obtain ⟨ad125, e125, hx125_0⟩ := Kd.at_int HR1.out x22_1 p125 q125
               cases e125
               replace hx125_0 := (HB.out.cell (World.block_lt_of_cell? w _ hx125_0)).trans hx125_0
               replace p125 := eq_true p125
               replace q125 := eq_true q125
               have p126 : 0 ≤ (x22_1 : Int) := oD (by first | (with_reducible assumption) | assumption)
               have q126 : x22_1 < (l0.length : Int) := oD (by first | (with_reducible assumption) | assumption)
               obtain ⟨ad126, e126, hx126_0⟩ := Kd.at_int HR0.out x22_1 p126 q126
               cases e126
               replace hx126_0 := (HB.out.cell (World.block_lt_of_cell? w _ hx126_0)).trans hx126_0
               replace p126 := eq_true p126
               replace q126 := eq_true q126
               have p54 : 0 ≤ (x22_1 : Int) := oD (by first | (with_reducible assumption) | assumption)
               have q54 : (x22_1 : Int) < ((x5_1.length : Int) : Int) := oD (by first | (with_reducible assumption) | assumption)
               obtain ⟨go54, co54, eo54, gb54, gl54, cl54, HG54⟩ := Kd.R_form HO_5.out (by omega)
               (first | cases eo54 | (injection eo54 with ea_ en_ ec_; (first | subst ea_ | (injection ea_ with ea_; subst ea_)); subst ec_; clear en_))
               have GB54 := aM gb54
               have GG54 := aM HG54
               clear gb54 gl54 HG54
               obtain ⟨hx54_0, hf54_0⟩ := Kd.R_celln 0 HO_5.out (x22_1 : Int) p54 q54
               replace p54 := eq_true p54
               replace q54 := eq_true q54
               have HP55 := Kd.R_putg HO_5.out (x22_1 : Int) (((rd l0 x22_1) + (rd l1 x22_1) + x6_1) % 18446744073709551616)
               go_wp2_with (first | ((with_reducible refine gate_store (t := 85) (p := 45) rfl ?_); refine store_event (t := 85) (p := 45) (v := ?vo_w56) (w1 := (wr.setCell ⟨go54, (x22_1 : Int).toNat, none⟩ (.int .u64 (((rd l0 x22_1) + (rd l1 x22_1) + x6_1) % 18446744073709551616)))) ?hg ?ho ?hn ?hr ?_; (case ho => rfl); (case hg => rfl); (case hn => rfl); (case hr => first | (go_simp; done) | (go_simp; rfl)); intro w56 hw; have hg : wr.grownBy w56 (some go54) := (by rw [hw]; exact HP55.2); have hp_ : Kd.R (Kd.int .u64) 85 w56 w.heap.size (fun _ => True) (.slice (some ⟨go54, 0, none⟩) x5_1.length co54) y127 := (by rw [hw, Ny127.out]; exact HP55.1); clear HP55; have n0_ := aM (hp_); have n1_ := aM ((by rw [hw]; exact below_set (HB.out) GB54.out : Below w.heap.size w w56)); clear HO_5 HB; have HO_5 := n0_; have HB := n1_; clear n0_ n1_ hg hw hp_))
               go_roundg k1
               case measure => have := HK1.out; omega
               case rel => exact ⟨(y127), (((rd l0 x22_1) + (rd l1 x22_1) + x6_1) / 18446744073709551616), (wrap64 (x22_1 + 1)), (by first | rfl | (simp; done) | (simp [*]; done)), (by first | rfl | (simp; done) | (simp [*]; done)), (by first | exact H' | (have h_ := H'; simp only [← hji39] at h_; exact h_)), ⟨by have := HK1.out; omega⟩, ⟨by (with_reducible repeat (first | apply rA | apply rN | apply rD)); exact HO_5.out⟩, ⟨by repeat (first | (with_reducible first | exact HB.out | apply bA | apply pN | apply bD) | exact HB.out)⟩⟩
              ·rw [if_neg c53] at H
               exact absurd H (by simp)
             ·rw [if_neg c51] at H
              exact absurd H (by simp)
            ·rw [if_neg c50] at H
             exact absurd H (by simp)
           ·rw [if_neg c49] at H
            exact absurd H (by simp)
          ·rw [if_neg c48] at H
           exact absurd H (by simp)
         ·rw [if_neg c47] at H
          exact absurd H (by simp)
        ·rw [if_neg c46] at H
         exact absurd H (by simp)
       ·rw [if_neg c45] at H
        have c45b0 : decide (x22_1 < (l1.length : Int)) = false := decide_eq_false c45
        clear c45
        by_cases c57 : 0 ≤ x22_1
        ·rw [if_pos c57] at H
         have c57b0 : decide (0 ≤ x22_1) = true := dT c57
         clear c57
         by_cases c58 : x22_1 < (l0.length : Int)
         ·rw [if_pos c58] at H
          have c58b0 : decide (x22_1 < (l0.length : Int)) = true := dT c58
          clear c58
          by_cases c59 : 0 ≤ (rd l0 x22_1)
          ·rw [if_pos c59] at H
           have c59b0 := eq_true c59
           have c59b1 : decide (0 ≤ (rd l0 x22_1)) = true := dT c59
           clear c59
           by_cases c60 : 0 ≤ x6_1
           ·rw [if_pos c60] at H
            have c60b0 := eq_true c60
            have c60b1 : decide (0 ≤ x6_1) = true := dT c60
            clear c60
            by_cases c61 : x6_1 ≤ 1
            ·rw [if_pos c61] at H
             have c61b0 := eq_true c61
             have c61b1 : decide (x6_1 ≤ 1) = true := dT c61
             clear c61
             have hx62 := fun w_ => call_add64_72 (rd l0 x22_1) 0 x6_1 (oD (by first | decide | (with_reducible assumption) | assumption | (simp only [decide_eq_true_eq]; omega))) (oD (by first | decide | (with_reducible assumption) | assumption | (simp only [decide_eq_true_eq]; omega))) (oD (by first | decide | (with_reducible assumption) | assumption | (simp only [decide_eq_true_eq]; omega))) (oD (by first | decide | (with_reducible assumption) | assumption | (simp only [decide_eq_true_eq]; omega))) w_
             by_cases c63 : x22_1 < (x5_1.length : Int)
             ·rw [if_pos c63] at H
              have c63b0 : decide (x22_1 < (x5_1.length : Int)) = true := dT c63
              clear c63
              obtain ⟨y129, hy129⟩ : ∃ y_ : List Int, y_ = (x5_1.set (x22_1 : Int).toNat (((rd l0 x22_1) + x6_1) % 18446744073709551616)) := ⟨_, rfl⟩
              replace H : (nat_Add.l100 k1 l0 l1 y129 (((rd l0 x22_1) + x6_1) / 18446744073709551616) (l0.length : Int) (wrap64 (x22_1 + 1))) = some r := by first | (rw [hy129]; with_reducible exact H) | (have H2_ := (Option.bind_some _ _).symm.trans H; rw [hy129]; with_reducible exact H2_) | (have H2_ := (Option.bind_some _ _).symm.trans H; with_reducible exact H2_) | with_reducible exact H | (rw [hy129]; exact H) | exact H
              have Ny129 := aM hy129
              clear hy129; have H' := aM H; clear H
              have p128 : 0 ≤ (x22_1 : Int) := oD (by first | (with_reducible assumption) | assumption)
              have q128 : x22_1 < (l0.length : Int) := oD (by first | (with_reducible assumption) | assumption)
              obtain ⟨ad128, e128, hx128_0⟩ := Kd.at_int HR0.out x22_1 p128 q128
              cases e128
              replace hx128_0 := (HB.out.cell (World.block_lt_of_cell? w _ hx128_0)).trans hx128_0
              replace p128 := eq_true p128
              replace q128 := eq_true q128
              have p64 : 0 ≤ (x22_1 : Int) := oD (by first | (with_reducible assumption) | assumption)
              have q64 : (x22_1 : Int) < ((x5_1.length : Int) : Int) := oD (by first | (with_reducible assumption) | assumption)
              obtain ⟨go64, co64, eo64, gb64, gl64, cl64, HG64⟩ := Kd.R_form HO_5.out (by omega)
              (first | cases eo64 | (injection eo64 with ea_ en_ ec_; (first | subst ea_ | (injection ea_ with ea_; subst ea_)); subst ec_; clear en_))
              have GB64 := aM gb64
              have GG64 := aM HG64
              clear gb64 gl64 HG64
              obtain ⟨hx64_0, hf64_0⟩ := Kd.R_celln 0 HO_5.out (x22_1 : Int) p64 q64
              replace p64 := eq_true p64
              replace q64 := eq_true q64
              have HP65 := Kd.R_putg HO_5.out (x22_1 : Int) (((rd l0 x22_1) + x6_1) % 18446744073709551616)
              go_wp2_with (first | ((with_reducible refine gate_store (t := 85) (p := 45) rfl ?_); refine store_event (t := 85) (p := 45) (v := ?vo_w66) (w1 := (wr.setCell ⟨go64, (x22_1 : Int).toNat, none⟩ (.int .u64 (((rd l0 x22_1) + x6_1) % 18446744073709551616)))) ?hg ?ho ?hn ?hr ?_; (case ho => rfl); (case hg => rfl); (case hn => rfl); (case hr => first | (go_simp; done) | (go_simp; rfl)); intro w66 hw; have hg : wr.grownBy w66 (some go64) := (by rw [hw]; exact HP65.2); have hp_ : Kd.R (Kd.int .u64) 85 w66 w.heap.size (fun _ => True) (.slice (some ⟨go64, 0, none⟩) x5_1.length co64) y129 := (by rw [hw, Ny129.out]; exact HP65.1); clear HP65; have n0_ := aM (hp_); have n1_ := aM ((by rw [hw]; exact below_set (HB.out) GB64.out : Below w.heap.size w w66)); clear HO_5 HB; have HO_5 := n0_; have HB := n1_; clear n0_ n1_ hg hw hp_))
              go_roundg k1
              case measure => have := HK1.out; omega
              case rel => exact ⟨(y129), (((rd l0 x22_1) + x6_1) / 18446744073709551616), (wrap64 (x22_1 + 1)), (by first | rfl | (simp; done) | (simp [*]; done)), (by first | rfl | (simp; done) | (simp [*]; done)), (by first | exact H' | (have h_ := H'; simp only [← hji39] at h_; exact h_)), ⟨by have := HK1.out; omega⟩, ⟨by (with_reducible repeat (first | apply rA | apply rN | apply rD)); exact HO_5.out⟩, ⟨by repeat (first | (with_reducible first | exact HB.out | apply bA | apply pN | apply bD) | exact HB.out)⟩⟩
             ·rw [if_neg c63] at H
              exact absurd H (by simp)
            ·rw [if_neg c61] at H
             exact absurd H (by simp)
           ·rw [if_neg c60] at H
            exact absurd H (by simp)
          ·rw [if_neg c59] at H
           exact absurd H (by simp)
         ·rw [if_neg c58] at H
          exact absurd H (by simp)
        ·rw [if_neg c57] at H
         exact absurd H (by simp)
      ·rw [if_neg c44] at H
       have c44b0 : decide (x22_1 < (l0.length : Int)) = false := decide_eq_false c44
       clear c44
       by_cases c67 : 0 ≤ (l0.length : Int)
       ·rw [if_pos c67] at H
        have c67b0 : decide (0 ≤ (l0.length : Int)) = true := dT c67
        have c67b1 : decide (0 ≤ l0.length) = true := dT (by omega)
        clear c67
        by_cases c68 : (l0.length : Int) < (x5_1.length : Int)
        ·rw [if_pos c68] at H
         have c68b0 : decide ((l0.length : Int) < (x5_1.length : Int)) = true := dT c68
         have c68b1 : decide (l0.length < x5_1.length) = true := dT (Int.ofNat_lt.mp c68)
         clear c68
         obtain ⟨y130, hy130⟩ : ∃ y_ : List Int, y_ = (x5_1.set ((l0.length : Int) : Int).toNat x6_1) := ⟨_, rfl⟩
         replace H : ((nat_cut.f k1 y130).bind fun t131 => (some t131)) = some r := by first | (rw [hy130]; with_reducible exact H) | (have H2_ := (Option.bind_some _ _).symm.trans H; rw [hy130]; with_reducible exact H2_) | (have H2_ := (Option.bind_some _ _).symm.trans H; with_reducible exact H2_) | with_reducible exact H | (rw [hy130]; exact H) | exact H
         have Ny130 := aM hy130
         clear hy130
         replace H := oB H
         obtain ⟨t131, A700, H⟩ := H
         replace H : (some t131) = some r := H
         have A70 := aM A700; clear A700
         obtain rfl := Option.some.inj H
         have p69 : 0 ≤ ((l0.length : Int) : Int) := oD (by first | (with_reducible assumption) | assumption)
         have q69 : ((l0.length : Int) : Int) < ((x5_1.length : Int) : Int) := oD (by first | (with_reducible assumption) | assumption)
         obtain ⟨go69, co69, eo69, gb69, gl69, cl69, HG69⟩ := Kd.R_form HO_5.out (by omega)
         (first | cases eo69 | (injection eo69 with ea_ en_ ec_; (first | subst ea_ | (injection ea_ with ea_; subst ea_)); subst ec_; clear en_))
         have GB69 := aM gb69
         have GG69 := aM HG69
         clear gb69 gl69 HG69
         obtain ⟨hx69_0, hf69_0⟩ := Kd.R_celln 0 HO_5.out ((l0.length : Int) : Int) p69 q69
         (try simp only [Int.toNat_natCast] at hx69_0)
         (try simp only [Int.toNat_natCast] at hf69_0)
         replace p69 := eq_true p69
         replace q69 := eq_true q69
         have HP71 := Kd.R_putg HO_5.out ((l0.length : Int) : Int) x6_1
         go_wp2_with (first | ((with_reducible refine gate_store (t := 85) (p := 51) rfl ?_); refine store_event (t := 85) (p := 51) (v := ?vo_w72) (w1 := (wr.setCell ⟨go69, ((l0.length : Int) : Int).toNat, none⟩ (.int .u64 x6_1))) ?hg ?ho ?hn ?hr ?_; (case ho => rfl); (case hg => rfl); (case hn => rfl); (case hr => first | (go_simp; done) | (go_simp; rfl)); intro w72 hw; have hg : wr.grownBy w72 (some go69) := (by rw [hw]; exact HP71.2); have hp_ : Kd.R (Kd.int .u64) 85 w72 w.heap.size (fun _ => True) (.slice (some ⟨go69, 0, none⟩) x5_1.length co69) y130 := (by rw [hw, Ny130.out]; exact HP71.1); clear HP71; have n0_ := aM (hp_); have n1_ := aM ((by rw [hw]; exact below_set (HB.out) GB69.out : Below w.heap.size w w72)); clear HO_5 HB; have HO_5 := n0_; have HB := n1_; clear n0_ n1_ hg hw hp_) | ((with_reducible refine gC (f := 73) rfl ?_); refine gL (some 53) rfl rfl Try.func73 (by kernel_rfl) rfl #[.slice (some ⟨go69, 0, none⟩) x5_1.length co69] rfl (by (try simp only [mA, List.map_cons, List.map_nil]); first | done | rfl | (simp only [List.length_drop, List.length_take]; rfl)) ?_; (with_reducible refine (nat_cut.calls k1 (fun k_ => some k_ = (.slice (some ⟨go69, 0, none⟩) x5_1.length co69 : Value).ownBlock) (.slice (some ⟨go69, 0, none⟩) x5_1.length co69) y130 t131 w _ ?side1 ?side2 A70.out).mono ?_); (case side1 => repeat (first | (with_reducible first | exact HB.out | apply bA | apply pN | apply bD) | exact HB.out)); (case side2 => exact Kd.R_tight rfl HO_5.out); rintro e w73 ⟨v132, rfl, ho0, hb, hkp⟩; refine ⟨_, rfl, ?_⟩; have n0_ := aM (Kd.R_mono (ok' := fun k_ => True) ho0 (fun k_ hk_ => trivial)); have n1_ := aM (hb); clear HB HO_5; have HO133 := n0_; have HB := n1_; clear n0_ n1_; (try clear hb); (try clear hkp); (try clear ho0)))
         go_ret
         exact ⟨_, by first | rfl | (simp [errW_none, errW_some] <;> rfl) | (simp only [← hji39]; first | rfl | (simp [errW_none, errW_some] <;> rfl)) | (simp [*, errW_none, errW_some] <;> rfl), by (with_reducible repeat (first | apply rA | apply rN | apply rD)); exact HO133.out, by repeat (first | (with_reducible first | exact HB.out | apply bA | apply pN | apply bD) | exact HB.out)⟩
        ·rw [if_neg c68] at H
         exact absurd H (by simp)
       ·rw [if_neg c67] at H
        exact absurd H (by simp)
   ·rw [if_neg c41] at H
    exact absurd H (by simp)
  ·rw [if_neg c40] at H
   exact absurd H (by simp)
def nat_Of.f (a0 : Int) : Option (List Int) := if a0 ≤ 0 then (some ([] : List Int)) else (some (([IntKind.u64.wrap (a0)] : List Int)))
set_option maxHeartbeats 8000000 in
set_option maxRecDepth 100000 in
theorem nat_Of.calls (a0 : Int) (r : List Int) (w : World) (h : nat_Of.f a0 = some r) :
  Calls Try.prog 56 #[.int .i64 a0] w fun e w' => ∃ v0_ : Value, e = .returned (v0_) ∧ Kd.R (Kd.int .u64) 85 w' w.heap.size (fun _ => True) v0_ r ∧ Below w.heap.size w w' := by
 have HB := aM (Below.refl w.heap.size w)
 have H : (if a0 ≤ 0 then (some ([] : List Int)) else (some (([IntKind.u64.wrap (a0)] : List Int)))) = some r := h
 clear h
 by_cases c2 : a0 ≤ 0
 ·rw [if_pos c2] at H
  have c2b0 : decide (a0 ≤ 0) = true := dT c2
  clear c2
  obtain rfl := Option.some.inj H
  go_enter Try.func56, Try.ntmps56
  go_wp2
  go_ret
  exact ⟨_, by first | rfl | (simp [errW_none, errW_some] <;> rfl) | (simp [*, errW_none, errW_some] <;> rfl), by first | exact Kd.R_nil _ _ _ _ _ | exact Kd.N_nil _ _ _ _ _ | exact Kd.V_nil _ _ _ _ _ | exact Kd.Q_nil _ _ _ _ _ | exact Kd.S_nil _ _ _ _ _, by repeat (first | (with_reducible first | exact HB.out | apply bA | apply pN | apply bD) | exact HB.out)⟩
 ·rw [if_neg c2] at H
  have c2b0 : decide (a0 ≤ 0) = false := decide_eq_false c2
  clear c2
  obtain ⟨y134, hy134⟩ : ∃ y_ : List Int, y_ = (([IntKind.u64.wrap (a0)] : List Int)) := ⟨_, rfl⟩
  replace H : (some y134) = some r := by first | (rw [hy134]; with_reducible exact H) | (have H2_ := (Option.bind_some _ _).symm.trans H; rw [hy134]; with_reducible exact H2_) | (have H2_ := (Option.bind_some _ _).symm.trans H; with_reducible exact H2_) | with_reducible exact H | (rw [hy134]; exact H) | exact H
  have Ny134 := aM hy134
  clear hy134
  obtain rfl := Option.some.inj H
  go_enter Try.func56, Try.ntmps56
  go_wp2_with (first | ((with_reducible refine gate_dst (N := 7) rfl ?_); refine Kd.R_lit (Kd.int .u64) _ 85 ?hg (N := 7) ?hd (xs := ([IntKind.u64.wrap (a0)] : List Int)) (inner := [.int .u64 (IntKind.u64.wrap (a0))]) (ok := fun _ => True) (okp := fun _ => True) ?hr ?hp (fun _ hk => hk) trivial (Below.refl _ _) (Nat.le_refl _) (by simp) ?_; (case hd => rfl); (case hg => rfl); (case hr => first | (go_simp; done) | (go_simp; rfl)); (case hp => exact (Reps.one (show Kd.M (Kd.int .u64) _ _ _ (IntKind.u64.wrap (a0)) [.int .u64 (IntKind.u64.wrap (a0))] from rfl) (Reps.none _ _))); intro v135 w3 ho4 hb hg_ hnew_; clear hg_ hnew_; (first | rw [← Ny134.out] at ho4 | (simp only [Int.reduceToNat] at ho4; rw [← Ny134.out] at ho4)); have n0_ := aM (Kd.R_lower ho4 (below_size (by repeat (first | (with_reducible first | exact HB.out | apply bA | apply pN | apply bD) | exact HB.out)))); have n1_ := aM (bS (by repeat (first | (with_reducible first | exact HB.out | apply bA | apply pN | apply bD) | exact HB.out)) hb); clear HB; have HO136 := n0_; have HB := n1_; clear n0_ n1_ hb ho4))
  go_ret
  exact ⟨_, by first | rfl | (simp [errW_none, errW_some] <;> rfl) | (simp [*, errW_none, errW_some] <;> rfl), by (with_reducible repeat (first | apply rA | apply rN | apply rD)); exact HO136.out, by repeat (first | (with_reducible first | exact HB.out | apply bA | apply pN | apply bD) | exact HB.out)⟩
def bits_Mul64.f (a0 : Int) (a1 : Int) : Option (Int × Int) := some (IntKind.u64.wrap ((IntKind.u64.wrap ((IntKind.u64.wrap ((a0 / 4294967296) * (a1 / 4294967296))) + ((IntKind.u64.wrap ((IntKind.u64.wrap ((a0 / 4294967296) * (Go.bits .and .u64 a1 4294967295))) + ((IntKind.u64.wrap ((Go.bits .and .u64 a0 4294967295) * (Go.bits .and .u64 a1 4294967295))) / 4294967296))) / 4294967296))) + ((IntKind.u64.wrap ((Go.bits .and .u64 (IntKind.u64.wrap ((IntKind.u64.wrap ((a0 / 4294967296) * (Go.bits .and .u64 a1 4294967295))) + ((IntKind.u64.wrap ((Go.bits .and .u64 a0 4294967295) * (Go.bits .and .u64 a1 4294967295))) / 4294967296))) 4294967295) + (IntKind.u64.wrap ((Go.bits .and .u64 a0 4294967295) * (a1 / 4294967296))))) / 4294967296)), IntKind.u64.wrap (a0 * a1))
set_option maxHeartbeats 8000000 in
set_option maxRecDepth 100000 in
theorem bits_Mul64.calls (a0 : Int) (a1 : Int) (r1 : Int) (r2 : Int) (w : World) (h : bits_Mul64.f a0 a1 = some (r1, r2)) :
  Calls Try.prog 44 #[.int .u64 a0, .int .u64 a1] w fun e w' => e = .returned (.tuple #[.int .u64 r1, .int .u64 r2]) ∧ Drawn0 w w' := by
 have H : (some (IntKind.u64.wrap ((IntKind.u64.wrap ((IntKind.u64.wrap ((a0 / 4294967296) * (a1 / 4294967296))) + ((IntKind.u64.wrap ((IntKind.u64.wrap ((a0 / 4294967296) * (Go.bits .and .u64 a1 4294967295))) + ((IntKind.u64.wrap ((Go.bits .and .u64 a0 4294967295) * (Go.bits .and .u64 a1 4294967295))) / 4294967296))) / 4294967296))) + ((IntKind.u64.wrap ((Go.bits .and .u64 (IntKind.u64.wrap ((IntKind.u64.wrap ((a0 / 4294967296) * (Go.bits .and .u64 a1 4294967295))) + ((IntKind.u64.wrap ((Go.bits .and .u64 a0 4294967295) * (Go.bits .and .u64 a1 4294967295))) / 4294967296))) 4294967295) + (IntKind.u64.wrap ((Go.bits .and .u64 a0 4294967295) * (a1 / 4294967296))))) / 4294967296)), IntKind.u64.wrap (a0 * a1))) = some (r1, r2) := h
 clear h
 simp only [Option.some.injEq, Prod.mk.injEq] at H
 obtain ⟨rfl, rfl⟩ := H
 go_enter Try.func44, Try.ntmps44
 go_wp2
 go_ret2
 exact ⟨by first | rfl | (simp; done) | (simp [*]; done), by repeat (first | exact Drawn0.refl _ | apply Drawn0.step)⟩
end Go.Proofs.Ytjfldeoddjicoaa.QLoadCountAddsUp
