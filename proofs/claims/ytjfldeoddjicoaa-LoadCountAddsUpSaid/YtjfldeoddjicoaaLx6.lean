/- Lean functions that answer as the Go functions of this seat do, each with the proof of that; the text was written by a program of ours, a changed copy of the kit's print. Condition of each proof: the Lean function answers 'some'. -/
import Derived.Test.YtjfldeoddjicoaaLx0
import Derived.Test.YtjfldeoddjicoaaLx2
import Derived.Test.YtjfldeoddjicoaaLx3
import Derived.Test.YtjfldeoddjicoaaLx5
namespace Go.Proofs.Ytjfldeoddjicoaa.QLoadCountAddsUp
open Go.RowKit Go.Proofs.YtjfldeoddjicoaaW.PrintWords Go.Proofs.YtjfldeoddjicoaaW.PrintLast Go.Proofs.YtjfldeoddjicoaaW.PrintMore
open Go.Proofs.YtjfldeoddjicoaaW.PrintWords.Kd renaming R_drewN → rN, R_drew → rD
open Go.Proofs.YtjfldeoddjicoaaW.PrintWords renaming pw_below_drewN → pN, below_drew1 → bD, below_alloc → bA, blk_drewN → kN, blk_alloc → kA, blk_drew → kD, below_step → bS, gate_callee → gC
open Go.Proofs.YtjfldeoddjicoaaW.PrintLast renaming goesL_ → gL
open List renaming setIfInBounds_toArray → sI, set_cons_zero → sZ, set_cons_succ → sS, map_toArray → mA
attribute [local go_sem] min2_int min_two
set_option linter.unusedVariables false
set_option linter.unusedSimpArgs false
def load_line_area.f (k : Nat) (l0 : List (S96)) (a1 : Int) (a2 : Int) : Option (List Int × List Int) := if 0 < (l0.length : Int) then (if 0 ≤ a1 then (if a1 < (((rd_T96 l0 0).f0).length : Int) then (if a1 < (((rd_T96 l0 0).f2).length : Int) then ((nat_Of.f ((rd_T77 ((rd_T96 l0 0).f0) a1).f0)).bind fun t201 => ((nat_Mul.f k (rd_L3 ((rd_T96 l0 0).f2) a1) t201).bind fun t204 => ((load_product.f k (([2, (rd_T77 ((rd_T96 l0 0).f0) a1).f0, (rd_T77 ((rd_T96 l0 0).f0) a1).f1, a2] : List Int))).bind fun t210 => ((nat_Add.f k t204 t210).bind fun t213 => (if ((rd_T77 ((rd_T96 l0 0).f0) a1).f2) ≥ ((rd_T77 ((rd_T96 l0 0).f0) a1).f1) then ((load_product.f k (([wrap64 (((rd_T77 ((rd_T96 l0 0).f0) a1).f2) - ((rd_T77 ((rd_T96 l0 0).f0) a1).f1)), a2, a2] : List Int))).bind fun t219 => ((nat_Add.f k t213 t219).bind fun t222 => ((load_product.f k (([2, (rd_T77 ((rd_T96 l0 0).f0) a1).f0, 1000000000] : List Int))).bind fun t228 => (some (t222, t228))))) else ((load_product.f k (([wrap64 (((rd_T77 ((rd_T96 l0 0).f0) a1).f1) - ((rd_T77 ((rd_T96 l0 0).f0) a1).f2)), a2, a2] : List Int))).bind fun t234 => ((nat_Sub.f k t213 t234).bind fun t237 => ((load_product.f k (([2, (rd_T77 ((rd_T96 l0 0).f0) a1).f0, 1000000000] : List Int))).bind fun t243 => (some (t237, t243)))))))))) else (none)) else (none)) else (none)) else (none)
theorem load_line_area.mono : ∀ a0 a1 a2 k, LeO (load_line_area.f k a0 a1 a2) (load_line_area.f (k + 1) a0 a1 a2) := by
 intro a0 a1 a2 k
 unfold load_line_area.f
 repeat' first
   | (with_reducible exact load_product.mono _ _)
   | (with_reducible exact nat_Add.mono _ _ _)
   | (with_reducible exact nat_Mul.mono _ _ _)
   | (with_reducible exact nat_Sub.mono _ _ _)
   | (with_reducible exact LeO.refl _)
   | (with_reducible exact LeO.none _)
   | (with_reducible refine LeO.ite ?_ ?_)
   | (with_reducible refine LeO.bind ?_ (fun _ => ?_))
   | exact load_product.mono _ _
   | exact nat_Add.mono _ _ _
   | exact nat_Mul.mono _ _ _
   | exact nat_Sub.mono _ _ _
   | exact LeO.none _
   | refine LeO.ite ?_ ?_
   | refine LeO.bind ?_ (fun _ => ?_)
def load_line_area.T2 : Bool × List (List Nat × List Nat) := (true, [([], []), ([0], [0]), ([1], [1]), ([2], [2]), ([], []), ([3, 4], [3, 4]), ([5], [5]), ([], []), ([7], [7]), ([8], [8]), ([6, 9, 9], [6, 9]), ([], []), ([11], [11]), ([], []), ([13], [13]), ([], []), ([12, 14, 15], [12, 14, 15]), ([16, 10], [16]), ([10, 17, 17], [10, 17]), ([18, 18, 0, 1, 2, 3, 4, 5, 6, 7, 8, 9, 10, 11, 12, 13, 14, 15, 16, 17, 18], [18])])
def load_line_area.B2 : List Nat := [0, 1, 3, 7, 0, 31, 63, 0, 128, 384, 1023, 0, 2048, 0, 8192, 0, 63488, 131071, 262143, 524287]
theorem load_line_area.tab2 : rtab .any (opsOf Try.f76 2) = load_line_area.T2 := by kernel_rfl
theorem load_line_area.bits2 : waitsOk load_line_area.T2.2 load_line_area.B2 = true := by kernel_rfl
set_option maxHeartbeats 8000000 in
set_option maxRecDepth 100000 in
theorem load_line_area.calls (k : Nat) (A0 : Option Addr) (c0 : Nat) (l0 : List (S96)) (a1 : Int) (a2 : Int) (r1 : List Int) (r2 : List Int) (w : World) (hr0 : Kd.C k96 w A0 l0.length l0) (hc0 : l0.length ≤ c0) (h : load_line_area.f k l0 a1 a2 = some (r1, r2)) :
  Calls Try.prog 76 #[.pointer A0, .int .i64 a1, .int .i64 a2] w fun e w' => ∃ v0_ v1_ : Value, e = .returned (.agg #[v0_, v1_]) ∧ Kd.R (Kd.int .u64) 85 w' w.heap.size (fun k_ => some k_ ≠ (v1_ : Value).ownBlock) v0_ r1 ∧ Kd.R (Kd.int .u64) 85 w' w.heap.size (fun k_ => some k_ ≠ (v0_ : Value).ownBlock) v1_ r2 ∧ Below w.heap.size w w' := by
 have hu102 := Try.underlying102
 have hu77 := Try.underlying77
 have HR0 := aM hr0
 have HC0 := aM hc0
 clear hr0 hc0
 have HB := aM (Below.refl w.heap.size w)
 have H : (if 0 < (l0.length : Int) then (if 0 ≤ a1 then (if a1 < (((rd_T96 l0 0).f0).length : Int) then (if a1 < (((rd_T96 l0 0).f2).length : Int) then ((nat_Of.f ((rd_T77 ((rd_T96 l0 0).f0) a1).f0)).bind fun t201 => ((nat_Mul.f k (rd_L3 ((rd_T96 l0 0).f2) a1) t201).bind fun t204 => ((load_product.f k (([2, (rd_T77 ((rd_T96 l0 0).f0) a1).f0, (rd_T77 ((rd_T96 l0 0).f0) a1).f1, a2] : List Int))).bind fun t210 => ((nat_Add.f k t204 t210).bind fun t213 => (if ((rd_T77 ((rd_T96 l0 0).f0) a1).f2) ≥ ((rd_T77 ((rd_T96 l0 0).f0) a1).f1) then ((load_product.f k (([wrap64 (((rd_T77 ((rd_T96 l0 0).f0) a1).f2) - ((rd_T77 ((rd_T96 l0 0).f0) a1).f1)), a2, a2] : List Int))).bind fun t219 => ((nat_Add.f k t213 t219).bind fun t222 => ((load_product.f k (([2, (rd_T77 ((rd_T96 l0 0).f0) a1).f0, 1000000000] : List Int))).bind fun t228 => (some (t222, t228))))) else ((load_product.f k (([wrap64 (((rd_T77 ((rd_T96 l0 0).f0) a1).f1) - ((rd_T77 ((rd_T96 l0 0).f0) a1).f2)), a2, a2] : List Int))).bind fun t234 => ((nat_Sub.f k t213 t234).bind fun t237 => ((load_product.f k (([2, (rd_T77 ((rd_T96 l0 0).f0) a1).f0, 1000000000] : List Int))).bind fun t243 => (some (t237, t243)))))))))) else (none)) else (none)) else (none)) else (none)) = some (r1, r2) := h
 clear h
 by_cases c4 : 0 < (l0.length : Int)
 ·rw [if_pos c4] at H
  have c4b0 : decide (0 < (l0.length : Int)) = true := dT c4
  have c4b1 : decide (0 < l0.length) = true := dT (by omega)
  clear c4
  by_cases c5 : 0 ≤ a1
  ·rw [if_pos c5] at H
   have c5b0 : decide (0 ≤ a1) = true := dT c5
   clear c5
   by_cases c6 : a1 < (((rd_T96 l0 0).f0).length : Int)
   ·rw [if_pos c6] at H
    have c6b0 : decide (a1 < (((rd_T96 l0 0).f0).length : Int)) = true := dT c6
    clear c6
    by_cases c7 : a1 < (((rd_T96 l0 0).f2).length : Int)
    ·rw [if_pos c7] at H
     have c7b0 : decide (a1 < (((rd_T96 l0 0).f2).length : Int)) = true := dT c7
     clear c7
     replace H := oB H
     obtain ⟨t201, A80, H⟩ := H
     replace H : ((nat_Mul.f k (rd_L3 ((rd_T96 l0 0).f2) a1) t201).bind fun t204 => ((load_product.f k (([2, (rd_T77 ((rd_T96 l0 0).f0) a1).f0, (rd_T77 ((rd_T96 l0 0).f0) a1).f1, a2] : List Int))).bind fun t210 => ((nat_Add.f k t204 t210).bind fun t213 => (if ((rd_T77 ((rd_T96 l0 0).f0) a1).f2) ≥ ((rd_T77 ((rd_T96 l0 0).f0) a1).f1) then ((load_product.f k (([wrap64 (((rd_T77 ((rd_T96 l0 0).f0) a1).f2) - ((rd_T77 ((rd_T96 l0 0).f0) a1).f1)), a2, a2] : List Int))).bind fun t219 => ((nat_Add.f k t213 t219).bind fun t222 => ((load_product.f k (([2, (rd_T77 ((rd_T96 l0 0).f0) a1).f0, 1000000000] : List Int))).bind fun t228 => (some (t222, t228))))) else ((load_product.f k (([wrap64 (((rd_T77 ((rd_T96 l0 0).f0) a1).f1) - ((rd_T77 ((rd_T96 l0 0).f0) a1).f2)), a2, a2] : List Int))).bind fun t234 => ((nat_Sub.f k t213 t234).bind fun t237 => ((load_product.f k (([2, (rd_T77 ((rd_T96 l0 0).f0) a1).f0, 1000000000] : List Int))).bind fun t243 => (some (t237, t243))))))))) = some (r1, r2) := H
     have A8 := aM A80; clear A80
     replace H := oB H
     obtain ⟨t204, A90, H⟩ := H
     replace H : ((load_product.f k (([2, (rd_T77 ((rd_T96 l0 0).f0) a1).f0, (rd_T77 ((rd_T96 l0 0).f0) a1).f1, a2] : List Int))).bind fun t210 => ((nat_Add.f k t204 t210).bind fun t213 => (if ((rd_T77 ((rd_T96 l0 0).f0) a1).f2) ≥ ((rd_T77 ((rd_T96 l0 0).f0) a1).f1) then ((load_product.f k (([wrap64 (((rd_T77 ((rd_T96 l0 0).f0) a1).f2) - ((rd_T77 ((rd_T96 l0 0).f0) a1).f1)), a2, a2] : List Int))).bind fun t219 => ((nat_Add.f k t213 t219).bind fun t222 => ((load_product.f k (([2, (rd_T77 ((rd_T96 l0 0).f0) a1).f0, 1000000000] : List Int))).bind fun t228 => (some (t222, t228))))) else ((load_product.f k (([wrap64 (((rd_T77 ((rd_T96 l0 0).f0) a1).f1) - ((rd_T77 ((rd_T96 l0 0).f0) a1).f2)), a2, a2] : List Int))).bind fun t234 => ((nat_Sub.f k t213 t234).bind fun t237 => ((load_product.f k (([2, (rd_T77 ((rd_T96 l0 0).f0) a1).f0, 1000000000] : List Int))).bind fun t243 => (some (t237, t243)))))))) = some (r1, r2) := H
     have A9 := aM A90; clear A90
     obtain ⟨y207, hy207⟩ : ∃ y_ : List Int, y_ = (([2, (rd_T77 ((rd_T96 l0 0).f0) a1).f0, (rd_T77 ((rd_T96 l0 0).f0) a1).f1, a2] : List Int)) := ⟨_, rfl⟩
     replace H : ((load_product.f k y207).bind fun t210 => ((nat_Add.f k t204 t210).bind fun t213 => (if ((rd_T77 ((rd_T96 l0 0).f0) a1).f2) ≥ ((rd_T77 ((rd_T96 l0 0).f0) a1).f1) then ((load_product.f k (([wrap64 (((rd_T77 ((rd_T96 l0 0).f0) a1).f2) - ((rd_T77 ((rd_T96 l0 0).f0) a1).f1)), a2, a2] : List Int))).bind fun t219 => ((nat_Add.f k t213 t219).bind fun t222 => ((load_product.f k (([2, (rd_T77 ((rd_T96 l0 0).f0) a1).f0, 1000000000] : List Int))).bind fun t228 => (some (t222, t228))))) else ((load_product.f k (([wrap64 (((rd_T77 ((rd_T96 l0 0).f0) a1).f1) - ((rd_T77 ((rd_T96 l0 0).f0) a1).f2)), a2, a2] : List Int))).bind fun t234 => ((nat_Sub.f k t213 t234).bind fun t237 => ((load_product.f k (([2, (rd_T77 ((rd_T96 l0 0).f0) a1).f0, 1000000000] : List Int))).bind fun t243 => (some (t237, t243)))))))) = some (r1, r2) := by first | (rw [hy207]; with_reducible exact H) | (have H2_ := (Option.bind_some _ _).symm.trans H; rw [hy207]; with_reducible exact H2_) | (have H2_ := (Option.bind_some _ _).symm.trans H; with_reducible exact H2_) | with_reducible exact H | (rw [hy207]; exact H) | exact H
     have Ny207 := aM hy207
     clear hy207
     replace H := oB H
     obtain ⟨t210, A100, H⟩ := H
     replace H : ((nat_Add.f k t204 t210).bind fun t213 => (if ((rd_T77 ((rd_T96 l0 0).f0) a1).f2) ≥ ((rd_T77 ((rd_T96 l0 0).f0) a1).f1) then ((load_product.f k (([wrap64 (((rd_T77 ((rd_T96 l0 0).f0) a1).f2) - ((rd_T77 ((rd_T96 l0 0).f0) a1).f1)), a2, a2] : List Int))).bind fun t219 => ((nat_Add.f k t213 t219).bind fun t222 => ((load_product.f k (([2, (rd_T77 ((rd_T96 l0 0).f0) a1).f0, 1000000000] : List Int))).bind fun t228 => (some (t222, t228))))) else ((load_product.f k (([wrap64 (((rd_T77 ((rd_T96 l0 0).f0) a1).f1) - ((rd_T77 ((rd_T96 l0 0).f0) a1).f2)), a2, a2] : List Int))).bind fun t234 => ((nat_Sub.f k t213 t234).bind fun t237 => ((load_product.f k (([2, (rd_T77 ((rd_T96 l0 0).f0) a1).f0, 1000000000] : List Int))).bind fun t243 => (some (t237, t243))))))) = some (r1, r2) := H
     have A10 := aM A100; clear A100
     replace H := oB H
     obtain ⟨t213, A110, H⟩ := H
     replace H : (if ((rd_T77 ((rd_T96 l0 0).f0) a1).f2) ≥ ((rd_T77 ((rd_T96 l0 0).f0) a1).f1) then ((load_product.f k (([wrap64 (((rd_T77 ((rd_T96 l0 0).f0) a1).f2) - ((rd_T77 ((rd_T96 l0 0).f0) a1).f1)), a2, a2] : List Int))).bind fun t219 => ((nat_Add.f k t213 t219).bind fun t222 => ((load_product.f k (([2, (rd_T77 ((rd_T96 l0 0).f0) a1).f0, 1000000000] : List Int))).bind fun t228 => (some (t222, t228))))) else ((load_product.f k (([wrap64 (((rd_T77 ((rd_T96 l0 0).f0) a1).f1) - ((rd_T77 ((rd_T96 l0 0).f0) a1).f2)), a2, a2] : List Int))).bind fun t234 => ((nat_Sub.f k t213 t234).bind fun t237 => ((load_product.f k (([2, (rd_T77 ((rd_T96 l0 0).f0) a1).f0, 1000000000] : List Int))).bind fun t243 => (some (t237, t243)))))) = some (r1, r2) := H
     have A11 := aM A110; clear A110
     by_cases c12 : ((rd_T77 ((rd_T96 l0 0).f0) a1).f2) ≥ ((rd_T77 ((rd_T96 l0 0).f0) a1).f1)
     ·rw [if_pos c12] at H
      have c12b0 : decide (((rd_T77 ((rd_T96 l0 0).f0) a1).f1) ≤ ((rd_T77 ((rd_T96 l0 0).f0) a1).f2)) = true := dT c12
      clear c12
      obtain ⟨y216, hy216⟩ : ∃ y_ : List Int, y_ = (([wrap64 (((rd_T77 ((rd_T96 l0 0).f0) a1).f2) - ((rd_T77 ((rd_T96 l0 0).f0) a1).f1)), a2, a2] : List Int)) := ⟨_, rfl⟩
      replace H : ((load_product.f k y216).bind fun t219 => ((nat_Add.f k t213 t219).bind fun t222 => ((load_product.f k (([2, (rd_T77 ((rd_T96 l0 0).f0) a1).f0, 1000000000] : List Int))).bind fun t228 => (some (t222, t228))))) = some (r1, r2) := by first | (rw [hy216]; with_reducible exact H) | (have H2_ := (Option.bind_some _ _).symm.trans H; rw [hy216]; with_reducible exact H2_) | (have H2_ := (Option.bind_some _ _).symm.trans H; with_reducible exact H2_) | with_reducible exact H | (rw [hy216]; exact H) | exact H
      have Ny216 := aM hy216
      clear hy216
      replace H := oB H
      obtain ⟨t219, A130, H⟩ := H
      replace H : ((nat_Add.f k t213 t219).bind fun t222 => ((load_product.f k (([2, (rd_T77 ((rd_T96 l0 0).f0) a1).f0, 1000000000] : List Int))).bind fun t228 => (some (t222, t228)))) = some (r1, r2) := H
      have A13 := aM A130; clear A130
      replace H := oB H
      obtain ⟨t222, A140, H⟩ := H
      replace H : ((load_product.f k (([2, (rd_T77 ((rd_T96 l0 0).f0) a1).f0, 1000000000] : List Int))).bind fun t228 => (some (t222, t228))) = some (r1, r2) := H
      have A14 := aM A140; clear A140
      obtain ⟨y225, hy225⟩ : ∃ y_ : List Int, y_ = (([2, (rd_T77 ((rd_T96 l0 0).f0) a1).f0, 1000000000] : List Int)) := ⟨_, rfl⟩
      replace H : ((load_product.f k y225).bind fun t228 => (some (t222, t228))) = some (r1, r2) := by first | (rw [hy225]; with_reducible exact H) | (have H2_ := (Option.bind_some _ _).symm.trans H; rw [hy225]; with_reducible exact H2_) | (have H2_ := (Option.bind_some _ _).symm.trans H; with_reducible exact H2_) | with_reducible exact H | (rw [hy225]; exact H) | exact H
      have Ny225 := aM hy225
      clear hy225
      replace H := oB H
      obtain ⟨t228, A150, H⟩ := H
      replace H : (some (t222, t228)) = some (r1, r2) := H
      have A15 := aM A150; clear A150
      simp only [Option.some.injEq, Prod.mk.injEq] at H
      obtain ⟨rfl, rfl⟩ := H
      go_enter Try.func76, Try.ntmps76
      try go_wp2_with (first | ((with_reducible refine gate_dst (N := 6) rfl ?_); refine box_event ?hg (N := 6) ?hd (cs := #[.slice none 0 0, .slice none 0 0]) (t := 102) ?hr ?_; (case hd => rfl); (case hg => rfl); (case hr => first | (go_simp; done) | (go_simp; rfl)); intro gb195 hg w16 hbox hb; have n0_ := aM (bS (by repeat (first | (with_reducible first | exact HB.out | apply bA | apply pN | apply bD) | exact HB.out)) hb); have n1_ := aM (hbox); have n2_ := aM ((by rw [hg]; exact (below_size (by repeat (first | (with_reducible first | exact HB.out | apply bA | apply pN | apply bD) | exact HB.out))) : w.heap.size ≤ gb195)); have n3_ := aM ((by rw [hg]; exact (below_size (by repeat (first | (with_reducible first | exact HB.out | apply bA | apply pN | apply bD) | exact HB.out))) : w.heap.size ≤ gb195)); clear HB; have HB := n0_; have BK195 := n1_; have GW195 := n2_; have GE195 := n3_; clear n0_ n1_ n2_ n3_ hb hbox hg; have p196 : 0 ≤ (0 : Int) := (by omega); have q196 : 0 < (l0.length : Int) := oD (by first | (with_reducible assumption) | assumption); obtain ⟨ad196, A196_0, c196_0, A196_1, c196_1, A196_2, c196_2, e196, hx196_0, hx196_1, hx196_2, hl196_0, hi196_0, hl196_1, hi196_1, hl196_2, hi196_2⟩ := at_T96 HR0.out 0 p196 q196; have hv196_0 := hx196_0; have hv196_1 := hx196_1; have hv196_2 := hx196_2; cases e196; have qi196 : (0 < l0.length) = True := eq_true (by omega); (try rw [show ((0 : Int)).toNat = 0 from rfl] at hx196_0); (try rw [show 0 * 3 = 0 from rfl] at hx196_0); (try rw [Addr.add_zero'] at hx196_0); (try rw [show ((0 : Int)).toNat = 0 from rfl] at hx196_1); (try rw [show 0 * 3 = 0 from rfl] at hx196_1); (try rw [Addr.add_zero'] at hx196_1); (try rw [show ((0 : Int)).toNat = 0 from rfl] at hx196_2); (try rw [show 0 * 3 = 0 from rfl] at hx196_2); (try rw [Addr.add_zero'] at hx196_2); replace hx196_0 := (HB.out.cell (World.block_lt_of_cell? w _ hx196_0)).trans hx196_0; replace hx196_1 := (HB.out.cell (World.block_lt_of_cell? w _ hx196_1)).trans hx196_1; replace hx196_2 := (HB.out.cell (World.block_lt_of_cell? w _ hx196_2)).trans hx196_2; have HR196_0 := aM hi196_0; have HC196_0 := aM hl196_0; clear hi196_0 hl196_0; have HR196_1 := aM hi196_1; have HC196_1 := aM hl196_1; clear hi196_1 hl196_1; have HR196_2 := aM hi196_2; have HC196_2 := aM hl196_2; clear hi196_2 hl196_2; replace p196 := eq_true p196; replace q196 := eq_true q196; have p197 : 0 ≤ (a1 : Int) := oD (by first | (with_reducible assumption) | assumption); have q197 : a1 < (((rd_T96 l0 0).f0).length : Int) := oD (by first | (with_reducible assumption) | assumption); obtain ⟨ad197, e197, hx197_0, hx197_1, hx197_2⟩ := at_T77 HR196_0.out a1 p197 q197; cases e197; replace hx197_0 := (HB.out.cell (World.block_lt_of_cell? w _ hx197_0)).trans hx197_0; replace hx197_1 := (HB.out.cell (World.block_lt_of_cell? w _ hx197_1)).trans hx197_1; replace hx197_2 := (HB.out.cell (World.block_lt_of_cell? w _ hx197_2)).trans hx197_2; replace p197 := eq_true p197; replace q197 := eq_true q197) | ((with_reducible refine gate_dst (N := 7) rfl ?_); refine box_event ?hg (N := 7) ?hd (cs := #[.int .i64 0, .int .i64 0, .int .i64 0]) (t := 77) ?hr ?_; (case hd => rfl); (case hg => rfl); (case hr => first | (go_simp; done) | (go_simp; rfl)); intro gb198 hg w17 hbox hb; have n0_ := aM (blk_below (g := gb195) (o := .cells #[.slice none 0 0, .slice none 0 0] 102 (0, 0)) (by (with_reducible repeat (first | refine kN ?_ _ | refine kD ?_ | refine kA ?_ _)); exact BK195.out) hb); have n1_ := aM (bS (by repeat (first | (with_reducible first | exact HB.out | apply bA | apply pN | apply bD | refine below_set ?_ GE195.out) | exact HB.out)) hb); have n2_ := aM (hbox); have n3_ := aM ((by rw [hg]; exact (below_size (by repeat (first | (with_reducible first | exact HB.out | apply bA | apply pN | apply bD | refine below_set ?_ GE195.out) | exact HB.out))) : w.heap.size ≤ gb198)); have n4_ := aM ((by rw [hg]; exact (below_size (by repeat (first | (with_reducible first | exact HB.out | apply bA | apply pN | apply bD | refine below_set ?_ GE195.out) | exact HB.out))) : w.heap.size ≤ gb198)); have n5_ := aM ((by rw [hg]; exact Nat.ne_of_lt (blk_lt (g := gb195) (o := .cells #[.slice none 0 0, .slice none 0 0] 102 (0, 0)) (by (with_reducible repeat (first | refine kN ?_ _ | refine kD ?_ | refine kA ?_ _)); exact BK195.out)) : gb195 ≠ gb198)); have n6_ := aM ((by rw [hg]; exact Nat.ne_of_gt (blk_lt (g := gb195) (o := .cells #[.slice none 0 0, .slice none 0 0] 102 (0, 0)) (by (with_reducible repeat (first | refine kN ?_ _ | refine kD ?_ | refine kA ?_ _)); exact BK195.out)) : gb198 ≠ gb195)); clear BK195 HB; have BK195 := n0_; have HB := n1_; have BK198 := n2_; have GW198 := n3_; have GE198 := n4_; have NB195_198 := n5_; have NB198_195 := n6_; clear n0_ n1_ n2_ n3_ n4_ n5_ n6_ hb hbox hg; have hnb18 := NB198_195.out; have hnc18 := NB195_198.out; have hcz19_0 : w17.cell? ⟨gb198, 0, none⟩ = some (.int .i64 0) := (blk_cell BK198.out 0).trans rfl; have hcz19_1 : w17.cell? ⟨gb198, 1, none⟩ = some (.int .i64 0) := (blk_cell BK198.out 1).trans rfl; have hcz19_2 : w17.cell? ⟨gb198, 2, none⟩ = some (.int .i64 0) := (blk_cell BK198.out 2).trans rfl; have hfz19_0 := blk_frozen BK198.out 0; have hfz19_1 := blk_frozen BK198.out 1; have hfz19_2 := blk_frozen BK198.out 2))
      have n0_ : Aside0 ((((w17.setCell ⟨gb198, 0, none⟩ (.int .i64 ((rd_T77 ((rd_T96 l0 0).f0) a1).f0))).setCell ⟨gb198, 1, none⟩ (.int .i64 ((rd_T77 ((rd_T96 l0 0).f0) a1).f1))).setCell ⟨gb198, 2, none⟩ (.int .i64 ((rd_T77 ((rd_T96 l0 0).f0) a1).f2))).heap[gb195]? = some (.cells #[.slice none 0 0, .slice none 0 0] 102 (0, 0))) := ⟨by (with_reducible repeat (first | refine kN ?_ _ | refine kD ?_ | refine kA ?_ _)); refine blk_far ?_ NB195_198.out _; (with_reducible repeat (first | refine kN ?_ _ | refine kD ?_ | refine kA ?_ _)); refine blk_far ?_ NB195_198.out _; (with_reducible repeat (first | refine kN ?_ _ | refine kD ?_ | refine kA ?_ _)); refine blk_far ?_ NB195_198.out _; (with_reducible repeat (first | refine kN ?_ _ | refine kD ?_ | refine kA ?_ _)); exact BK195.out⟩
      have n1_ : Aside0 ((((w17.setCell ⟨gb198, 0, none⟩ (.int .i64 ((rd_T77 ((rd_T96 l0 0).f0) a1).f0))).setCell ⟨gb198, 1, none⟩ (.int .i64 ((rd_T77 ((rd_T96 l0 0).f0) a1).f1))).setCell ⟨gb198, 2, none⟩ (.int .i64 ((rd_T77 ((rd_T96 l0 0).f0) a1).f2))).heap[gb198]? = some (.cells #[.int .i64 ((rd_T77 ((rd_T96 l0 0).f0) a1).f0), .int .i64 ((rd_T77 ((rd_T96 l0 0).f0) a1).f1), .int .i64 ((rd_T77 ((rd_T96 l0 0).f0) a1).f2)] 77 (0, 0))) := ⟨by (with_reducible repeat (first | refine kN ?_ _ | refine kD ?_ | refine kA ?_ _)); refine blk_put (cs := #[.int .i64 ((rd_T77 ((rd_T96 l0 0).f0) a1).f0), .int .i64 ((rd_T77 ((rd_T96 l0 0).f0) a1).f1), .int .i64 0]) ?_ 2 _ rfl; (with_reducible repeat (first | refine kN ?_ _ | refine kD ?_ | refine kA ?_ _)); refine blk_put (cs := #[.int .i64 ((rd_T77 ((rd_T96 l0 0).f0) a1).f0), .int .i64 0, .int .i64 0]) ?_ 1 _ rfl; (with_reducible repeat (first | refine kN ?_ _ | refine kD ?_ | refine kA ?_ _)); refine blk_put (cs := #[.int .i64 0, .int .i64 0, .int .i64 0]) ?_ 0 _ rfl; (with_reducible repeat (first | refine kN ?_ _ | refine kD ?_ | refine kA ?_ _)); exact BK198.out⟩
      have n2_ : Aside0 (Below w.heap.size w (((w17.setCell ⟨gb198, 0, none⟩ (.int .i64 ((rd_T77 ((rd_T96 l0 0).f0) a1).f0))).setCell ⟨gb198, 1, none⟩ (.int .i64 ((rd_T77 ((rd_T96 l0 0).f0) a1).f1))).setCell ⟨gb198, 2, none⟩ (.int .i64 ((rd_T77 ((rd_T96 l0 0).f0) a1).f2)))) := ⟨by repeat (first | (with_reducible first | exact HB.out | apply bA | apply pN | apply bD | refine below_set ?_ GE195.out | refine below_set ?_ GE198.out) | exact HB.out)⟩
      (try clear BK195)
      (try clear BK198)
      (try clear HB)
      generalize (((w17.setCell ⟨gb198, 0, none⟩ (.int .i64 ((rd_T77 ((rd_T96 l0 0).f0) a1).f0))).setCell ⟨gb198, 1, none⟩ (.int .i64 ((rd_T77 ((rd_T96 l0 0).f0) a1).f1))).setCell ⟨gb198, 2, none⟩ (.int .i64 ((rd_T77 ((rd_T96 l0 0).f0) a1).f2))) = w20 at n0_ n1_ n2_ ⊢
      have BK195 := n0_; have BK198 := n1_; have HB := n2_; clear n0_ n1_ n2_; have n0_ := aM (kD BK195.out); have n1_ := aM (kD BK198.out); have n2_ := aM (bD HB.out); clear BK195 BK198 HB; have BK195 := n0_; have BK198 := n1_; have HB := n2_; clear n0_ n1_ n2_
      have p199 : 0 ≤ (0 : Int) := (by omega)
      have q199 : 0 < (l0.length : Int) := oD (by first | (with_reducible assumption) | assumption)
      obtain ⟨ad199, A199_0, c199_0, A199_1, c199_1, A199_2, c199_2, e199, hx199_0, hx199_1, hx199_2, hl199_0, hi199_0, hl199_1, hi199_1, hl199_2, hi199_2⟩ := at_T96 HR0.out 0 p199 q199
      have hw199_2 := hx199_2
      (try rw [show ((0 : Int)).toNat = 0 from rfl] at hw199_2)
      (try rw [show 0 * 3 = 0 from rfl] at hw199_2)
      (try rw [Addr.add_zero'] at hw199_2)
      have hw199_1 := hx199_1
      (try rw [show ((0 : Int)).toNat = 0 from rfl] at hw199_1)
      (try rw [show 0 * 3 = 0 from rfl] at hw199_1)
      (try rw [Addr.add_zero'] at hw199_1)
      have hw199_0 := hx199_0
      (try rw [show ((0 : Int)).toNat = 0 from rfl] at hw199_0)
      (try rw [show 0 * 3 = 0 from rfl] at hw199_0)
      (try rw [Addr.add_zero'] at hw199_0)
      have hv199_0 := hx199_0
      have hv199_1 := hx199_1
      have hv199_2 := hx199_2
      obtain rfl : ad196 = ad199 := (by injection e199)
      have qi199 : (0 < l0.length) = True := eq_true (by omega)
      (try rw [show ((0 : Int)).toNat = 0 from rfl] at hx199_0)
      (try rw [show 0 * 3 = 0 from rfl] at hx199_0)
      (try rw [Addr.add_zero'] at hx199_0)
      (try rw [show ((0 : Int)).toNat = 0 from rfl] at hx199_1)
      (try rw [show 0 * 3 = 0 from rfl] at hx199_1)
      (try rw [Addr.add_zero'] at hx199_1)
      (try rw [show ((0 : Int)).toNat = 0 from rfl] at hx199_2)
      (try rw [show 0 * 3 = 0 from rfl] at hx199_2)
      (try rw [Addr.add_zero'] at hx199_2)
      replace hx199_0 := (HB.out.cell (World.block_lt_of_cell? w _ hx199_0)).trans hx199_0
      replace hx199_1 := (HB.out.cell (World.block_lt_of_cell? w _ hx199_1)).trans hx199_1
      replace hx199_2 := (HB.out.cell (World.block_lt_of_cell? w _ hx199_2)).trans hx199_2
      have HR199_0 := aM hi199_0
      have HC199_0 := aM hl199_0
      clear hi199_0 hl199_0
      have HR199_1 := aM hi199_1
      have HC199_1 := aM hl199_1
      clear hi199_1 hl199_1
      have HR199_2 := aM hi199_2
      have HC199_2 := aM hl199_2
      clear hi199_2 hl199_2
      replace p199 := eq_true p199
      replace q199 := eq_true q199
      have p200 : 0 ≤ (a1 : Int) := oD (by first | (with_reducible assumption) | assumption)
      have q200 : a1 < (((rd_T96 l0 0).f2).length : Int) := oD (by first | (with_reducible assumption) | assumption)
      obtain ⟨ad200, A200_0, c200_0, e200, hx200_0, hl200_0, hi200_0⟩ := at_L3 HR199_2.out a1 p200 q200
      have hw200_0 := hx200_0
      have hv200_0 := hx200_0
      cases e200
      replace hx200_0 := (HB.out.cell (World.block_lt_of_cell? w _ hx200_0)).trans hx200_0
      have HR200_0 := aM hi200_0
      have HC200_0 := aM hl200_0
      clear hi200_0 hl200_0
      replace p200 := eq_true p200
      replace q200 := eq_true q200
      refine start_ (n := 20) (S := fun w' => w'.cell? ⟨gb198, 0, none⟩ = some (.int .i64 ((rd_T77 ((rd_T96 l0 0).f0) a1).f0)) ∧ w'.cell? ⟨gb198, 1, none⟩ = some (.int .i64 ((rd_T77 ((rd_T96 l0 0).f0) a1).f1)) ∧ w'.cell? ⟨gb198, 2, none⟩ = some (.int .i64 ((rd_T77 ((rd_T96 l0 0).f0) a1).f2)) ∧ w'.cell? ad196 = some (.slice A199_0 ((rd_T96 l0 0).f0).length c199_0) ∧ w'.cell? ⟨ad196.block, ad196.off + 1, none⟩ = some (.slice A199_1 ((rd_T96 l0 0).f1).length c199_1) ∧ w'.cell? ⟨ad196.block, ad196.off + 2, none⟩ = some (.slice (some ad200) ((rd_T96 l0 0).f2).length c199_2) ∧ w'.cell? (ad200.add (a1).toNat) = some (.slice A200_0 (rd_L3 ((rd_T96 l0 0).f2) a1).length c200_0)) (ds := []) #[false, false, false, false, false, false, false, false, false, false, false, false, false, false, false, false, false, false, false, false] (by kernel_rfl) rfl rfl ⟨(blk_cell BK198.out 0).trans rfl, (blk_cell BK198.out 1).trans rfl, (blk_cell BK198.out 2).trans rfl, ((HB.out.cell (World.block_lt_of_cell? w _ hw199_0)).trans hw199_0), ((HB.out.cell (World.block_lt_of_cell? w _ hw199_1)).trans hw199_1), ((HB.out.cell (World.block_lt_of_cell? w _ hw199_2)).trans hw199_2), ((HB.out.cell (World.block_lt_of_cell? w _ hw200_0)).trans hw200_0)⟩ (fun hHeld => ?_); refine with_tabW load_line_area.tab2 load_line_area.bits2 (fun HT_ HW_ => ?_)
      generalize w20.drew = w21 at BK195 BK198 HB HR199_0 HR199_1 HR199_2 HR200_0 hx199_0 hx199_1 hx199_2 hx200_0 hHeld ⊢
      refine pure_ (i := 0) (N := some 16) (v := ?_) (a' := ?_) #[true, false, false, false, false, false, false, false, false, false, false, false, false, false, false, false, false, false, false, false] rfl rfl (any_of HT_.out (by kernel_rfl)) (fun _ _ _ h => h) (Or.inl ⟨by rfl, ?_⟩) ?_ ?_
      rotate_left
      ·intro w'
       go_simp
       with_reducible rfl
      rotate_left
      ·simp only [Act.put, sI, sZ, sS, i64_w, i32_w]
       rfl
      refine pure_ (i := 1) (N := some 17) (v := ?_) (a' := ?_) #[true, true, false, false, false, false, false, false, false, false, false, false, false, false, false, false, false, false, false, false] rfl rfl (any_of HT_.out (by kernel_rfl)) (fun _ _ _ h => h) (Or.inl ⟨by rfl, ?_⟩) ?_ ?_
      rotate_left
      ·intro w'
       go_simp
       with_reducible rfl
      rotate_left
      ·simp only [Act.put, sI, sZ, sS, i64_w, i32_w]
       rfl
      refine pure_ (i := 2) (N := some 18) (v := ?_) (a' := ?_) #[true, true, true, false, false, false, false, false, false, false, false, false, false, false, false, false, false, false, false, false] rfl rfl (any_of HT_.out (by kernel_rfl)) (fun _ _ _ h => h) (Or.inl ⟨by rfl, ?_⟩) ?_ ?_
      rotate_left
      ·intro w'
       go_simp
       with_reducible rfl
      rotate_left
      ·simp only [Act.put, sI, sZ, sS, i64_w, i32_w]
       rfl
      refine pure_ (i := 4) (N := some 20) (v := ?_) (a' := ?_) #[true, true, true, false, true, false, false, false, false, false, false, false, false, false, false, false, false, false, false, false] rfl rfl (any_of HT_.out (by kernel_rfl)) (fun _ _ _ h => h) (Or.inl ⟨by rfl, ?_⟩) ?_ ?_
      rotate_left
      ·intro w'
       go_simp
       with_reducible rfl
      rotate_left
      ·simp only [Act.put, sI, sZ, sS, i64_w, i32_w]
       rfl
      refine pure_ (i := 7) (N := some 23) (v := ?_) (a' := ?_) #[true, true, true, false, true, false, false, true, false, false, false, false, false, false, false, false, false, false, false, false] rfl rfl (any_of HT_.out (by kernel_rfl)) (fun _ _ _ h => h) (Or.inl ⟨by rfl, ?_⟩) ?_ ?_
      rotate_left
      ·intro w'
       go_simp
       with_reducible rfl
      rotate_left
      ·simp only [Act.put, sI, sZ, sS, i64_w, i32_w]
       rfl
      refine pure_ (i := 11) (N := some 27) (v := ?_) (a' := ?_) #[true, true, true, false, true, false, false, true, false, false, false, true, false, false, false, false, false, false, false, false] rfl rfl (any_of HT_.out (by kernel_rfl)) (fun _ _ _ h => h) (Or.inl ⟨by rfl, ?_⟩) ?_ ?_
      rotate_left
      ·intro w'
       go_simp
       with_reducible rfl
      rotate_left
      ·simp only [Act.put, sI, sZ, sS, i64_w, i32_w]
       rfl
      refine pure_ (i := 13) (N := some 29) (v := ?_) (a' := ?_) #[true, true, true, false, true, false, false, true, false, false, false, true, false, true, false, false, false, false, false, false] rfl rfl (any_of HT_.out (by kernel_rfl)) (fun _ _ _ h => h) (Or.inl ⟨by rfl, ?_⟩) ?_ ?_
      rotate_left
      ·intro w'
       go_simp
       with_reducible rfl
      rotate_left
      ·simp only [Act.put, sI, sZ, sS, i64_w, i32_w]
       rfl
      refine pure_ (i := 15) (N := some 31) (v := ?_) (a' := ?_) #[true, true, true, false, true, false, false, true, false, false, false, true, false, true, false, true, false, false, false, false] rfl rfl (any_of HT_.out (by kernel_rfl)) (fun _ _ _ h => h) (Or.inl ⟨by rfl, ?_⟩) ?_ ?_
      rotate_left
      ·intro w'
       go_simp
       with_reducible rfl
      rotate_left
      ·simp only [Act.put, sI, sZ, sS, i64_w, i32_w]
       rfl
      refine take_ (i := 3) (N := some 19) (v := ?_) (a' := ?_) #[true, true, true, true, true, false, false, true, false, false, false, true, false, true, false, true, false, false, false, false] rfl rfl (take_ofW HT_.out HW_.out (by kernel_rfl)) (fun _ _ _ h => h) (Or.inl ⟨by rfl, ?_⟩) hHeld ?_ ?_
      rotate_left
      ·rintro w' ⟨s0, s1, s2, s3, s4, s5, s6⟩
       go_simp
       with_reducible rfl
      rotate_left
      ·simp only [Act.put, sI, sZ, sS, i64_w, i32_w]
       rfl
      refine pure_ (i := 5) (N := some 21) (v := ?_) (a' := ?_) #[true, true, true, true, true, true, false, true, false, false, false, true, false, true, false, true, false, false, false, false] rfl rfl (any_of HT_.out (by kernel_rfl)) (fun _ _ _ h => h) (Or.inl ⟨by rfl, ?_⟩) ?_ ?_
      rotate_left
      ·intro w'
       go_simp
       with_reducible rfl
      rotate_left
      ·simp only [Act.put, sI, sZ, sS, i64_w, i32_w]
       rfl
      refine take_ (i := 6) (N := some 22) (v := ?_) (a' := ?_) #[true, true, true, true, true, true, true, true, false, false, false, true, false, true, false, true, false, false, false, false] rfl rfl (take_ofW HT_.out HW_.out (by kernel_rfl)) (fun _ _ _ h => h) (Or.inl ⟨by rfl, ?_⟩) hHeld ?_ ?_
      rotate_left
      ·rintro w' ⟨s0, s1, s2, s3, s4, s5, s6⟩
       go_simp
       with_reducible rfl
      rotate_left
      ·simp only [Act.put, sI, sZ, sS, i64_w, i32_w]
       rfl
      refine take_ (i := 8) (N := some 24) (v := ?_) (a' := ?_) #[true, true, true, true, true, true, true, true, true, false, false, true, false, true, false, true, false, false, false, false] rfl rfl (take_ofW HT_.out HW_.out (by kernel_rfl)) (fun _ _ _ h => h) (Or.inl ⟨by rfl, ?_⟩) hHeld ?_ ?_
      rotate_left
      ·rintro w' ⟨s0, s1, s2, s3, s4, s5, s6⟩
       go_simp
       with_reducible rfl
      rotate_left
      ·simp only [Act.put, sI, sZ, sS, i64_w, i32_w]
       rfl
      refine take_ (i := 12) (N := some 28) (v := ?_) (a' := ?_) #[true, true, true, true, true, true, true, true, true, false, false, true, true, true, false, true, false, false, false, false] rfl rfl (take_ofW HT_.out HW_.out (by kernel_rfl)) (fun _ _ _ h => h) (Or.inl ⟨by rfl, ?_⟩) hHeld ?_ ?_
      rotate_left
      ·rintro w' ⟨s0, s1, s2, s3, s4, s5, s6⟩
       go_simp
       with_reducible rfl
      rotate_left
      ·simp only [Act.put, sI, sZ, sS, i64_w, i32_w]
       rfl
      refine take_ (i := 14) (N := some 30) (v := ?_) (a' := ?_) #[true, true, true, true, true, true, true, true, true, false, false, true, true, true, true, true, false, false, false, false] rfl rfl (take_ofW HT_.out HW_.out (by kernel_rfl)) (fun _ _ _ h => h) (Or.inl ⟨by rfl, ?_⟩) hHeld ?_ ?_
      rotate_left
      ·rintro w' ⟨s0, s1, s2, s3, s4, s5, s6⟩
       go_simp
       with_reducible rfl
      rotate_left
      ·simp only [Act.put, sI, sZ, sS, i64_w, i32_w]
       rfl
      refine join_ (σ := Value × Value × Value) 3 #[true, true, true, true, true, true, true, true, true, true, true, true, true, true, true, true, true, false, false, false] (fun s_ => [(25, s_.1), (26, s_.2.1), (32, s_.2.2)]) (fun s_ w' => (w'.cell? ⟨gb198, 0, none⟩ = some (.int .i64 ((rd_T77 ((rd_T96 l0 0).f0) a1).f0)) ∧ w'.cell? ⟨gb198, 1, none⟩ = some (.int .i64 ((rd_T77 ((rd_T96 l0 0).f0) a1).f1)) ∧ w'.cell? ⟨gb198, 2, none⟩ = some (.int .i64 ((rd_T77 ((rd_T96 l0 0).f0) a1).f2)) ∧ w'.cell? ad196 = some (.slice A199_0 ((rd_T96 l0 0).f0).length c199_0) ∧ w'.cell? ⟨ad196.block, ad196.off + 1, none⟩ = some (.slice A199_1 ((rd_T96 l0 0).f1).length c199_1) ∧ w'.cell? ⟨ad196.block, ad196.off + 2, none⟩ = some (.slice (some ad200) ((rd_T96 l0 0).f2).length c199_2) ∧ w'.cell? (ad200.add (a1).toNat) = some (.slice A200_0 (rd_L3 ((rd_T96 l0 0).f2) a1).length c200_0)) ∧ (Kd.R (Kd.int .u64) 85 w' w.heap.size (fun k_ => some k_ ≠ (s_.2.1 : Value).ownBlock) s_.1 t201) ∧ (Kd.R (Kd.int .u64) 85 w' w.heap.size (fun k_ => some k_ ≠ (s_.1 : Value).ownBlock) s_.2.1 t204) ∧ (Kd.R (Kd.int .i64) 3 w' w.heap.size (fun _ => True) s_.2.2 y207) ∧ (w'.heap[gb195]? = some (.cells #[.slice none 0 0, .slice none 0 0] 102 (0, 0))) ∧ (w'.heap[gb198]? = some (.cells #[.int .i64 ((rd_T77 ((rd_T96 l0 0).f0) a1).f0), .int .i64 ((rd_T77 ((rd_T96 l0 0).f0) a1).f1), .int .i64 ((rd_T77 ((rd_T96 l0 0).f0) a1).f2)] 77 (0, 0))) ∧ (Below w.heap.size w w')) ?_ ?_
      rotate_left
      ·intro hCont
       refine two_ (i := 9) (j := 16) (Ni := some 25) (Nj := some 32) #[true, true, true, true, true, true, true, true, true, true, false, true, true, true, true, true, false, false, false, false] #[true, true, true, true, true, true, true, true, true, false, false, true, true, true, true, true, true, false, false, false] rfl rfl rfl rfl (two_of HT_.out (by kernel_rfl)) (by decide) (by decide) (fun K hK => ?_) (fun K hK => ?_)
       ·skip
        refine goes_ Try.func56 (by kernel_rfl) rfl #[.int .i64 ((rd_T77 ((rd_T96 l0 0).f0) a1).f0)] (by rfl) rfl rfl (by (try simp only [mA, List.map_cons, List.map_nil]); first | done | rfl | (simp only [List.length_drop, List.length_take]; rfl)) ?_
        with_reducible refine (nat_Of.calls ((rd_T77 ((rd_T96 l0 0).f0) a1).f0) t201 _ A8.out).mono ?_
        rintro e w22 ⟨v202, rfl, ho0, hb⟩
        refine ⟨_, rfl, ?_⟩
        have n0_ := aM (Kd.R_lower ho0 (below_size (by repeat (first | (with_reducible first | exact HB.out | apply bA | apply pN | apply bD | refine below_set ?_ GE195.out | refine below_set ?_ GE198.out) | exact HB.out)))); have n1_ := aM (blk_below (g := gb195) (o := .cells #[.slice none 0 0, .slice none 0 0] 102 (0, 0)) (by (with_reducible repeat (first | refine kN ?_ _ | refine kD ?_ | refine kA ?_ _)); exact BK195.out) hb); have n2_ := aM (blk_below (g := gb198) (o := .cells #[.int .i64 ((rd_T77 ((rd_T96 l0 0).f0) a1).f0), .int .i64 ((rd_T77 ((rd_T96 l0 0).f0) a1).f1), .int .i64 ((rd_T77 ((rd_T96 l0 0).f0) a1).f2)] 77 (0, 0)) (by (with_reducible repeat (first | refine kN ?_ _ | refine kD ?_ | refine kA ?_ _)); exact BK198.out) hb); have n3_ := aM (bS (by repeat (first | (with_reducible first | exact HB.out | apply bA | apply pN | apply bD | refine below_set ?_ GE195.out | refine below_set ?_ GE198.out) | exact HB.out)) hb); clear BK195 BK198 HB; have HO203 := n0_; have BK195 := n1_; have BK198 := n2_; have HB := n3_; clear n0_ n1_ n2_ n3_
        (try clear hb)
        (try clear hb2)
        (try clear hk)
        (try clear hi)
        (try clear ho0)
        obtain ⟨Ao23, co23, eo23⟩ := Kd.R_slice HO203.out
        (first | subst eo23 | (injection eo23 with f1_ f2_ f3_; have f4_ := f1_.symm; have f5_ := f3_.symm; clear f1_ f2_ f3_; subst f4_; subst f5_))
        refine hK.out _ _ ⟨(blk_cell BK198.out 0).trans rfl, (blk_cell BK198.out 1).trans rfl, (blk_cell BK198.out 2).trans rfl, ((HB.out.cell (World.block_lt_of_cell? w _ hw199_0)).trans hw199_0), ((HB.out.cell (World.block_lt_of_cell? w _ hw199_1)).trans hw199_1), ((HB.out.cell (World.block_lt_of_cell? w _ hw199_2)).trans hw199_2), ((HB.out.cell (World.block_lt_of_cell? w _ hw200_0)).trans hw200_0)⟩ (fun hHeld => ?_)
        clear hK K
        refine norm_ (a' := ?_) ?_ ?_
        rotate_left
        ·show Act.put _ (some 25) _ = _
         simp only [Act.put, sI, sZ, sS, i64_w, i32_w]
         rfl
        refine two_ (i := 10) (j := 16) (Ni := some 26) (Nj := some 32) #[true, true, true, true, true, true, true, true, true, true, true, true, true, true, true, true, false, false, false, false] #[true, true, true, true, true, true, true, true, true, true, false, true, true, true, true, true, true, false, false, false] rfl rfl rfl rfl (two_of HT_.out (by kernel_rfl)) (by decide) (by decide) (fun K hK => ?_) (fun K hK => ?_)
        ·skip
         refine goes_ Try.func74 (by kernel_rfl) rfl #[.slice A200_0 (rd_L3 ((rd_T96 l0 0).f2) a1).length c200_0, .slice Ao23 t201.length co23] (by rfl) rfl rfl (by (try simp only [mA, List.map_cons, List.map_nil]); first | done | rfl | (simp only [List.length_drop, List.length_take]; rfl)) ?_
         with_reducible refine (nat_Mul.calls k _ _ (rd_L3 ((rd_T96 l0 0).f2) a1) _ _ t201 t204 _ ?side1 ?side2 ?side3 ?side4 A9.out).mono ?_
         (case side1 => repeat (first | exact (Kd.C_below HR200_0.out HB.out) | (with_reducible refine cA ?_ _) | (with_reducible refine cN ?_ _) | (with_reducible refine cD ?_)))
         (case side2 => exact HC200_0.out)
         (case side3 => repeat (first | exact (Kd.R_reads' HO203.out).2.2 | (with_reducible refine cA ?_ _) | (with_reducible refine cN ?_ _) | (with_reducible refine cD ?_)))
         (case side4 => exact (Kd.R_reads' HO203.out).2.1)
         rintro e w24 ⟨v205, rfl, ho0, hb⟩
         refine ⟨_, rfl, ?_⟩
         have n0_ := aM (Kd.R_elder' (by (with_reducible repeat (first | apply rA | apply rN | apply rD)); exact HO203.out) (Kd.R_base ho0) hb); have n1_ := aM (Kd.R_lower (Kd.R_new' ho0 (Kd.R_lt (by (with_reducible repeat (first | apply rA | apply rN | apply rD)); exact HO203.out))) (below_size (by repeat (first | (with_reducible first | exact HB.out | apply bA | apply pN | apply bD | refine below_set ?_ GE195.out | refine below_set ?_ GE198.out) | exact HB.out)))); have n2_ := aM (blk_below (g := gb195) (o := .cells #[.slice none 0 0, .slice none 0 0] 102 (0, 0)) (by (with_reducible repeat (first | refine kN ?_ _ | refine kD ?_ | refine kA ?_ _)); exact BK195.out) hb); have n3_ := aM (blk_below (g := gb198) (o := .cells #[.int .i64 ((rd_T77 ((rd_T96 l0 0).f0) a1).f0), .int .i64 ((rd_T77 ((rd_T96 l0 0).f0) a1).f1), .int .i64 ((rd_T77 ((rd_T96 l0 0).f0) a1).f2)] 77 (0, 0)) (by (with_reducible repeat (first | refine kN ?_ _ | refine kD ?_ | refine kA ?_ _)); exact BK198.out) hb); have n4_ := aM (bS (by repeat (first | (with_reducible first | exact HB.out | apply bA | apply pN | apply bD | refine below_set ?_ GE195.out | refine below_set ?_ GE198.out) | exact HB.out)) hb); clear HO203 BK195 BK198 HB; have HO203 := n0_; have HO206 := n1_; have BK195 := n2_; have BK198 := n3_; have HB := n4_; clear n0_ n1_ n2_ n3_ n4_
         (try clear hb)
         (try clear hb2)
         (try clear hk)
         (try clear hi)
         (try clear ho0)
         refine hK.out _ _ ⟨(blk_cell BK198.out 0).trans rfl, (blk_cell BK198.out 1).trans rfl, (blk_cell BK198.out 2).trans rfl, ((HB.out.cell (World.block_lt_of_cell? w _ hw199_0)).trans hw199_0), ((HB.out.cell (World.block_lt_of_cell? w _ hw199_1)).trans hw199_1), ((HB.out.cell (World.block_lt_of_cell? w _ hw199_2)).trans hw199_2), ((HB.out.cell (World.block_lt_of_cell? w _ hw200_0)).trans hw200_0)⟩ (fun hHeld => ?_)
         clear hK K
         refine norm_ (a' := ?_) ?_ ?_
         rotate_left
         ·show Act.put _ (some 26) _ = _
          simp only [Act.put, sI, sZ, sS, i64_w, i32_w]
          rfl
         refine one_ (i := 16) (N := some 32) #[true, true, true, true, true, true, true, true, true, true, true, true, true, true, true, true, true, false, false, false] rfl rfl (one_of HT_.out (by kernel_rfl)) (by decide) (fun K hK => ?_)
         refine Kd.R_lit_step (Kd.int .i64) _ 3 ?hg (N := 32) ?hd (xs := ([2, (rd_T77 ((rd_T96 l0 0).f0) a1).f0, (rd_T77 ((rd_T96 l0 0).f0) a1).f1, a2] : List Int)) (inner := [.int .i64 2, .int .i64 ((rd_T77 ((rd_T96 l0 0).f0) a1).f0), .int .i64 ((rd_T77 ((rd_T96 l0 0).f0) a1).f1), .int .i64 a2]) (ok := fun _ => True) (okp := fun _ => True) ?hr ?hp (fun _ hk => hk) trivial (Below.refl _ _) (Nat.le_refl _) (by simp) ?_; (case hd => rfl); (case hg => rfl); (case hr => first | (go_simp; done) | (go_simp; rfl)); (case hp => exact (Reps.one (show Kd.M (Kd.int .i64) _ _ _ 2 [.int .i64 2] from rfl) (Reps.one (show Kd.M (Kd.int .i64) _ _ _ ((rd_T77 ((rd_T96 l0 0).f0) a1).f0) [.int .i64 ((rd_T77 ((rd_T96 l0 0).f0) a1).f0)] from rfl) (Reps.one (show Kd.M (Kd.int .i64) _ _ _ ((rd_T77 ((rd_T96 l0 0).f0) a1).f1) [.int .i64 ((rd_T77 ((rd_T96 l0 0).f0) a1).f1)] from rfl) (Reps.one (show Kd.M (Kd.int .i64) _ _ _ a2 [.int .i64 a2] from rfl) (Reps.none _ _))))))
         intro v208 w25 ho26 hb hg_ hnew_
         clear hg_ hnew_
         (first | rw [← Ny207.out] at ho26 | (simp only [Int.reduceToNat] at ho26; rw [← Ny207.out] at ho26))
         have n0_ := aM (Kd.R_below (by (with_reducible repeat (first | apply rA | apply rN | apply rD)); exact HO203.out) hb); have n1_ := aM (Kd.R_below (by (with_reducible repeat (first | apply rA | apply rN | apply rD)); exact HO206.out) hb); have n2_ := aM (Kd.R_lower ho26 (below_size (by repeat (first | (with_reducible first | exact HB.out | apply bA | apply pN | apply bD | refine below_set ?_ GE195.out | refine below_set ?_ GE198.out) | exact HB.out)))); have n3_ := aM (blk_below (g := gb195) (o := .cells #[.slice none 0 0, .slice none 0 0] 102 (0, 0)) (by (with_reducible repeat (first | refine kN ?_ _ | refine kD ?_ | refine kA ?_ _)); exact BK195.out) hb); have n4_ := aM (blk_below (g := gb198) (o := .cells #[.int .i64 ((rd_T77 ((rd_T96 l0 0).f0) a1).f0), .int .i64 ((rd_T77 ((rd_T96 l0 0).f0) a1).f1), .int .i64 ((rd_T77 ((rd_T96 l0 0).f0) a1).f2)] 77 (0, 0)) (by (with_reducible repeat (first | refine kN ?_ _ | refine kD ?_ | refine kA ?_ _)); exact BK198.out) hb); have n5_ := aM (bS (by repeat (first | (with_reducible first | exact HB.out | apply bA | apply pN | apply bD | refine below_set ?_ GE195.out | refine below_set ?_ GE198.out) | exact HB.out)) hb); clear HO203 HO206 BK195 BK198 HB; have HO203 := n0_; have HO206 := n1_; have HO209 := n2_; have BK195 := n3_; have BK198 := n4_; have HB := n5_; clear n0_ n1_ n2_ n3_ n4_ n5_ hb ho26
         refine hK.out _ _ ⟨(blk_cell BK198.out 0).trans rfl, (blk_cell BK198.out 1).trans rfl, (blk_cell BK198.out 2).trans rfl, ((HB.out.cell (World.block_lt_of_cell? w _ hw199_0)).trans hw199_0), ((HB.out.cell (World.block_lt_of_cell? w _ hw199_1)).trans hw199_1), ((HB.out.cell (World.block_lt_of_cell? w _ hw199_2)).trans hw199_2), ((HB.out.cell (World.block_lt_of_cell? w _ hw200_0)).trans hw200_0)⟩ (fun hHeld => ?_)
         clear hK K
         refine norm_ (a' := ?_) ?_ ?_
         rotate_left
         ·show Act.put _ (some 32) _ = _
          simp only [Act.put, sI, sZ, sS, i64_w, i32_w]
          rfl
         exact norm_ (by simp only [putAll, Act.put, sI, sZ, sS]) (hCont (.slice Ao23 t201.length co23, v205, v208) _ ⟨hHeld, (by (with_reducible repeat (first | apply rA | apply rN | apply rD)); exact Kd.R_mono HO203.out (fun _ hk => hk.2)), (by (with_reducible repeat (first | apply rA | apply rN | apply rD)); exact Kd.R_mono HO206.out (fun _ hk => hk.2)), (by (with_reducible repeat (first | apply rA | apply rN | apply rD)); exact HO209.out), (by (with_reducible repeat (first | refine kN ?_ _ | refine kD ?_ | refine kA ?_ _)); exact BK195.out), (by (with_reducible repeat (first | refine kN ?_ _ | refine kD ?_ | refine kA ?_ _)); exact BK198.out), (by repeat (first | (with_reducible first | exact HB.out | apply bA | apply pN | apply bD | refine below_set ?_ GE195.out | refine below_set ?_ GE198.out) | exact HB.out))⟩)
        ·skip
         refine Kd.R_lit_step (Kd.int .i64) _ 3 ?hg (N := 32) ?hd (xs := ([2, (rd_T77 ((rd_T96 l0 0).f0) a1).f0, (rd_T77 ((rd_T96 l0 0).f0) a1).f1, a2] : List Int)) (inner := [.int .i64 2, .int .i64 ((rd_T77 ((rd_T96 l0 0).f0) a1).f0), .int .i64 ((rd_T77 ((rd_T96 l0 0).f0) a1).f1), .int .i64 a2]) (ok := fun _ => True) (okp := fun _ => True) ?hr ?hp (fun _ hk => hk) trivial (Below.refl _ _) (Nat.le_refl _) (by simp) ?_; (case hd => rfl); (case hg => rfl); (case hr => first | (go_simp; done) | (go_simp; rfl)); (case hp => exact (Reps.one (show Kd.M (Kd.int .i64) _ _ _ 2 [.int .i64 2] from rfl) (Reps.one (show Kd.M (Kd.int .i64) _ _ _ ((rd_T77 ((rd_T96 l0 0).f0) a1).f0) [.int .i64 ((rd_T77 ((rd_T96 l0 0).f0) a1).f0)] from rfl) (Reps.one (show Kd.M (Kd.int .i64) _ _ _ ((rd_T77 ((rd_T96 l0 0).f0) a1).f1) [.int .i64 ((rd_T77 ((rd_T96 l0 0).f0) a1).f1)] from rfl) (Reps.one (show Kd.M (Kd.int .i64) _ _ _ a2 [.int .i64 a2] from rfl) (Reps.none _ _))))))
         intro v208 w23 ho24 hb hg_ hnew_
         clear hg_ hnew_
         (first | rw [← Ny207.out] at ho24 | (simp only [Int.reduceToNat] at ho24; rw [← Ny207.out] at ho24))
         have n0_ := aM (Kd.R_below (by (with_reducible repeat (first | apply rA | apply rN | apply rD)); exact HO203.out) hb); have n1_ := aM (Kd.R_lower ho24 (below_size (by repeat (first | (with_reducible first | exact HB.out | apply bA | apply pN | apply bD | refine below_set ?_ GE195.out | refine below_set ?_ GE198.out) | exact HB.out)))); have n2_ := aM (blk_below (g := gb195) (o := .cells #[.slice none 0 0, .slice none 0 0] 102 (0, 0)) (by (with_reducible repeat (first | refine kN ?_ _ | refine kD ?_ | refine kA ?_ _)); exact BK195.out) hb); have n3_ := aM (blk_below (g := gb198) (o := .cells #[.int .i64 ((rd_T77 ((rd_T96 l0 0).f0) a1).f0), .int .i64 ((rd_T77 ((rd_T96 l0 0).f0) a1).f1), .int .i64 ((rd_T77 ((rd_T96 l0 0).f0) a1).f2)] 77 (0, 0)) (by (with_reducible repeat (first | refine kN ?_ _ | refine kD ?_ | refine kA ?_ _)); exact BK198.out) hb); have n4_ := aM (bS (by repeat (first | (with_reducible first | exact HB.out | apply bA | apply pN | apply bD | refine below_set ?_ GE195.out | refine below_set ?_ GE198.out) | exact HB.out)) hb); clear HO203 BK195 BK198 HB; have HO203 := n0_; have HO209 := n1_; have BK195 := n2_; have BK198 := n3_; have HB := n4_; clear n0_ n1_ n2_ n3_ n4_ hb ho24
         obtain ⟨Ao25, co25, eo25⟩ := Kd.R_slice HO203.out
         (first | subst eo25 | (injection eo25 with f1_ f2_ f3_; have f4_ := f1_.symm; have f5_ := f3_.symm; clear f1_ f2_ f3_; subst f4_; subst f5_))
         refine hK.out _ _ ⟨(blk_cell BK198.out 0).trans rfl, (blk_cell BK198.out 1).trans rfl, (blk_cell BK198.out 2).trans rfl, ((HB.out.cell (World.block_lt_of_cell? w _ hw199_0)).trans hw199_0), ((HB.out.cell (World.block_lt_of_cell? w _ hw199_1)).trans hw199_1), ((HB.out.cell (World.block_lt_of_cell? w _ hw199_2)).trans hw199_2), ((HB.out.cell (World.block_lt_of_cell? w _ hw200_0)).trans hw200_0)⟩ (fun hHeld => ?_)
         clear hK K
         refine norm_ (a' := ?_) ?_ ?_
         rotate_left
         ·show Act.put _ (some 32) _ = _
          simp only [Act.put, sI, sZ, sS, i64_w, i32_w]
          rfl
         refine one_ (i := 10) (N := some 26) #[true, true, true, true, true, true, true, true, true, true, true, true, true, true, true, true, true, false, false, false] rfl rfl (one_of HT_.out (by kernel_rfl)) (by decide) (fun K hK => ?_)
         refine goes_ Try.func74 (by kernel_rfl) rfl #[.slice A200_0 (rd_L3 ((rd_T96 l0 0).f2) a1).length c200_0, .slice Ao25 t201.length co25] (by rfl) rfl rfl (by (try simp only [mA, List.map_cons, List.map_nil]); first | done | rfl | (simp only [List.length_drop, List.length_take]; rfl)) ?_
         with_reducible refine (nat_Mul.calls k _ _ (rd_L3 ((rd_T96 l0 0).f2) a1) _ _ t201 t204 _ ?side1 ?side2 ?side3 ?side4 A9.out).mono ?_
         (case side1 => repeat (first | exact (Kd.C_below HR200_0.out HB.out) | (with_reducible refine cA ?_ _) | (with_reducible refine cN ?_ _) | (with_reducible refine cD ?_)))
         (case side2 => exact HC200_0.out)
         (case side3 => repeat (first | exact (Kd.R_reads' HO203.out).2.2 | (with_reducible refine cA ?_ _) | (with_reducible refine cN ?_ _) | (with_reducible refine cD ?_)))
         (case side4 => exact (Kd.R_reads' HO203.out).2.1)
         rintro e w26 ⟨v205, rfl, ho0, hb⟩
         refine ⟨_, rfl, ?_⟩
         have n0_ := aM (Kd.R_elder' (by (with_reducible repeat (first | apply rA | apply rN | apply rD)); exact HO203.out) (Kd.R_base ho0) hb); have n1_ := aM (Kd.R_below (by (with_reducible repeat (first | apply rA | apply rN | apply rD)); exact HO209.out) hb); have n2_ := aM (Kd.R_lower (Kd.R_new' ho0 (Kd.R_lt (by (with_reducible repeat (first | apply rA | apply rN | apply rD)); exact HO203.out))) (below_size (by repeat (first | (with_reducible first | exact HB.out | apply bA | apply pN | apply bD | refine below_set ?_ GE195.out | refine below_set ?_ GE198.out) | exact HB.out)))); have n3_ := aM (blk_below (g := gb195) (o := .cells #[.slice none 0 0, .slice none 0 0] 102 (0, 0)) (by (with_reducible repeat (first | refine kN ?_ _ | refine kD ?_ | refine kA ?_ _)); exact BK195.out) hb); have n4_ := aM (blk_below (g := gb198) (o := .cells #[.int .i64 ((rd_T77 ((rd_T96 l0 0).f0) a1).f0), .int .i64 ((rd_T77 ((rd_T96 l0 0).f0) a1).f1), .int .i64 ((rd_T77 ((rd_T96 l0 0).f0) a1).f2)] 77 (0, 0)) (by (with_reducible repeat (first | refine kN ?_ _ | refine kD ?_ | refine kA ?_ _)); exact BK198.out) hb); have n5_ := aM (bS (by repeat (first | (with_reducible first | exact HB.out | apply bA | apply pN | apply bD | refine below_set ?_ GE195.out | refine below_set ?_ GE198.out) | exact HB.out)) hb); clear HO203 HO209 BK195 BK198 HB; have HO203 := n0_; have HO209 := n1_; have HO206 := n2_; have BK195 := n3_; have BK198 := n4_; have HB := n5_; clear n0_ n1_ n2_ n3_ n4_ n5_
         (try clear hb)
         (try clear hb2)
         (try clear hk)
         (try clear hi)
         (try clear ho0)
         refine hK.out _ _ ⟨(blk_cell BK198.out 0).trans rfl, (blk_cell BK198.out 1).trans rfl, (blk_cell BK198.out 2).trans rfl, ((HB.out.cell (World.block_lt_of_cell? w _ hw199_0)).trans hw199_0), ((HB.out.cell (World.block_lt_of_cell? w _ hw199_1)).trans hw199_1), ((HB.out.cell (World.block_lt_of_cell? w _ hw199_2)).trans hw199_2), ((HB.out.cell (World.block_lt_of_cell? w _ hw200_0)).trans hw200_0)⟩ (fun hHeld => ?_)
         clear hK K
         refine norm_ (a' := ?_) ?_ ?_
         rotate_left
         ·show Act.put _ (some 26) _ = _
          simp only [Act.put, sI, sZ, sS, i64_w, i32_w]
          rfl
         exact norm_ (by simp only [putAll, Act.put, sI, sZ, sS]) (hCont (.slice Ao25 t201.length co25, v205, v208) _ ⟨hHeld, (by (with_reducible repeat (first | apply rA | apply rN | apply rD)); exact Kd.R_mono HO203.out (fun _ hk => hk.2)), (by (with_reducible repeat (first | apply rA | apply rN | apply rD)); exact Kd.R_mono HO206.out (fun _ hk => hk.2)), (by (with_reducible repeat (first | apply rA | apply rN | apply rD)); exact HO209.out), (by (with_reducible repeat (first | refine kN ?_ _ | refine kD ?_ | refine kA ?_ _)); exact BK195.out), (by (with_reducible repeat (first | refine kN ?_ _ | refine kD ?_ | refine kA ?_ _)); exact BK198.out), (by repeat (first | (with_reducible first | exact HB.out | apply bA | apply pN | apply bD | refine below_set ?_ GE195.out | refine below_set ?_ GE198.out) | exact HB.out))⟩)
       ·skip
        refine Kd.R_lit_step (Kd.int .i64) _ 3 ?hg (N := 32) ?hd (xs := ([2, (rd_T77 ((rd_T96 l0 0).f0) a1).f0, (rd_T77 ((rd_T96 l0 0).f0) a1).f1, a2] : List Int)) (inner := [.int .i64 2, .int .i64 ((rd_T77 ((rd_T96 l0 0).f0) a1).f0), .int .i64 ((rd_T77 ((rd_T96 l0 0).f0) a1).f1), .int .i64 a2]) (ok := fun _ => True) (okp := fun _ => True) ?hr ?hp (fun _ hk => hk) trivial (Below.refl _ _) (Nat.le_refl _) (by simp) ?_; (case hd => rfl); (case hg => rfl); (case hr => first | (go_simp; done) | (go_simp; rfl)); (case hp => exact (Reps.one (show Kd.M (Kd.int .i64) _ _ _ 2 [.int .i64 2] from rfl) (Reps.one (show Kd.M (Kd.int .i64) _ _ _ ((rd_T77 ((rd_T96 l0 0).f0) a1).f0) [.int .i64 ((rd_T77 ((rd_T96 l0 0).f0) a1).f0)] from rfl) (Reps.one (show Kd.M (Kd.int .i64) _ _ _ ((rd_T77 ((rd_T96 l0 0).f0) a1).f1) [.int .i64 ((rd_T77 ((rd_T96 l0 0).f0) a1).f1)] from rfl) (Reps.one (show Kd.M (Kd.int .i64) _ _ _ a2 [.int .i64 a2] from rfl) (Reps.none _ _))))))
        intro v208 w22 ho23 hb hg_ hnew_
        clear hg_ hnew_
        (first | rw [← Ny207.out] at ho23 | (simp only [Int.reduceToNat] at ho23; rw [← Ny207.out] at ho23))
        have n0_ := aM (Kd.R_lower ho23 (below_size (by repeat (first | (with_reducible first | exact HB.out | apply bA | apply pN | apply bD | refine below_set ?_ GE195.out | refine below_set ?_ GE198.out) | exact HB.out)))); have n1_ := aM (blk_below (g := gb195) (o := .cells #[.slice none 0 0, .slice none 0 0] 102 (0, 0)) (by (with_reducible repeat (first | refine kN ?_ _ | refine kD ?_ | refine kA ?_ _)); exact BK195.out) hb); have n2_ := aM (blk_below (g := gb198) (o := .cells #[.int .i64 ((rd_T77 ((rd_T96 l0 0).f0) a1).f0), .int .i64 ((rd_T77 ((rd_T96 l0 0).f0) a1).f1), .int .i64 ((rd_T77 ((rd_T96 l0 0).f0) a1).f2)] 77 (0, 0)) (by (with_reducible repeat (first | refine kN ?_ _ | refine kD ?_ | refine kA ?_ _)); exact BK198.out) hb); have n3_ := aM (bS (by repeat (first | (with_reducible first | exact HB.out | apply bA | apply pN | apply bD | refine below_set ?_ GE195.out | refine below_set ?_ GE198.out) | exact HB.out)) hb); clear BK195 BK198 HB; have HO209 := n0_; have BK195 := n1_; have BK198 := n2_; have HB := n3_; clear n0_ n1_ n2_ n3_ hb ho23
        refine hK.out _ _ ⟨(blk_cell BK198.out 0).trans rfl, (blk_cell BK198.out 1).trans rfl, (blk_cell BK198.out 2).trans rfl, ((HB.out.cell (World.block_lt_of_cell? w _ hw199_0)).trans hw199_0), ((HB.out.cell (World.block_lt_of_cell? w _ hw199_1)).trans hw199_1), ((HB.out.cell (World.block_lt_of_cell? w _ hw199_2)).trans hw199_2), ((HB.out.cell (World.block_lt_of_cell? w _ hw200_0)).trans hw200_0)⟩ (fun hHeld => ?_)
        clear hK K
        refine norm_ (a' := ?_) ?_ ?_
        rotate_left
        ·show Act.put _ (some 32) _ = _
         simp only [Act.put, sI, sZ, sS, i64_w, i32_w]
         rfl
        refine one_ (i := 9) (N := some 25) #[true, true, true, true, true, true, true, true, true, true, false, true, true, true, true, true, true, false, false, false] rfl rfl (one_of HT_.out (by kernel_rfl)) (by decide) (fun K hK => ?_)
        refine goes_ Try.func56 (by kernel_rfl) rfl #[.int .i64 ((rd_T77 ((rd_T96 l0 0).f0) a1).f0)] (by rfl) rfl rfl (by (try simp only [mA, List.map_cons, List.map_nil]); first | done | rfl | (simp only [List.length_drop, List.length_take]; rfl)) ?_
        with_reducible refine (nat_Of.calls ((rd_T77 ((rd_T96 l0 0).f0) a1).f0) t201 _ A8.out).mono ?_
        rintro e w24 ⟨v202, rfl, ho0, hb⟩
        refine ⟨_, rfl, ?_⟩
        have n0_ := aM (Kd.R_below (by (with_reducible repeat (first | apply rA | apply rN | apply rD)); exact HO209.out) hb); have n1_ := aM (Kd.R_lower ho0 (below_size (by repeat (first | (with_reducible first | exact HB.out | apply bA | apply pN | apply bD | refine below_set ?_ GE195.out | refine below_set ?_ GE198.out) | exact HB.out)))); have n2_ := aM (blk_below (g := gb195) (o := .cells #[.slice none 0 0, .slice none 0 0] 102 (0, 0)) (by (with_reducible repeat (first | refine kN ?_ _ | refine kD ?_ | refine kA ?_ _)); exact BK195.out) hb); have n3_ := aM (blk_below (g := gb198) (o := .cells #[.int .i64 ((rd_T77 ((rd_T96 l0 0).f0) a1).f0), .int .i64 ((rd_T77 ((rd_T96 l0 0).f0) a1).f1), .int .i64 ((rd_T77 ((rd_T96 l0 0).f0) a1).f2)] 77 (0, 0)) (by (with_reducible repeat (first | refine kN ?_ _ | refine kD ?_ | refine kA ?_ _)); exact BK198.out) hb); have n4_ := aM (bS (by repeat (first | (with_reducible first | exact HB.out | apply bA | apply pN | apply bD | refine below_set ?_ GE195.out | refine below_set ?_ GE198.out) | exact HB.out)) hb); clear HO209 BK195 BK198 HB; have HO209 := n0_; have HO203 := n1_; have BK195 := n2_; have BK198 := n3_; have HB := n4_; clear n0_ n1_ n2_ n3_ n4_
        (try clear hb)
        (try clear hb2)
        (try clear hk)
        (try clear hi)
        (try clear ho0)
        obtain ⟨Ao25, co25, eo25⟩ := Kd.R_slice HO203.out
        (first | subst eo25 | (injection eo25 with f1_ f2_ f3_; have f4_ := f1_.symm; have f5_ := f3_.symm; clear f1_ f2_ f3_; subst f4_; subst f5_))
        refine hK.out _ _ ⟨(blk_cell BK198.out 0).trans rfl, (blk_cell BK198.out 1).trans rfl, (blk_cell BK198.out 2).trans rfl, ((HB.out.cell (World.block_lt_of_cell? w _ hw199_0)).trans hw199_0), ((HB.out.cell (World.block_lt_of_cell? w _ hw199_1)).trans hw199_1), ((HB.out.cell (World.block_lt_of_cell? w _ hw199_2)).trans hw199_2), ((HB.out.cell (World.block_lt_of_cell? w _ hw200_0)).trans hw200_0)⟩ (fun hHeld => ?_)
        clear hK K
        refine norm_ (a' := ?_) ?_ ?_
        rotate_left
        ·show Act.put _ (some 25) _ = _
         simp only [Act.put, sI, sZ, sS, i64_w, i32_w]
         rfl
        refine one_ (i := 10) (N := some 26) #[true, true, true, true, true, true, true, true, true, true, true, true, true, true, true, true, true, false, false, false] rfl rfl (one_of HT_.out (by kernel_rfl)) (by decide) (fun K hK => ?_)
        refine goes_ Try.func74 (by kernel_rfl) rfl #[.slice A200_0 (rd_L3 ((rd_T96 l0 0).f2) a1).length c200_0, .slice Ao25 t201.length co25] (by rfl) rfl rfl (by (try simp only [mA, List.map_cons, List.map_nil]); first | done | rfl | (simp only [List.length_drop, List.length_take]; rfl)) ?_
        with_reducible refine (nat_Mul.calls k _ _ (rd_L3 ((rd_T96 l0 0).f2) a1) _ _ t201 t204 _ ?side1 ?side2 ?side3 ?side4 A9.out).mono ?_
        (case side1 => repeat (first | exact (Kd.C_below HR200_0.out HB.out) | (with_reducible refine cA ?_ _) | (with_reducible refine cN ?_ _) | (with_reducible refine cD ?_)))
        (case side2 => exact HC200_0.out)
        (case side3 => repeat (first | exact (Kd.R_reads' HO203.out).2.2 | (with_reducible refine cA ?_ _) | (with_reducible refine cN ?_ _) | (with_reducible refine cD ?_)))
        (case side4 => exact (Kd.R_reads' HO203.out).2.1)
        rintro e w26 ⟨v205, rfl, ho0, hb⟩
        refine ⟨_, rfl, ?_⟩
        have n0_ := aM (Kd.R_below (by (with_reducible repeat (first | apply rA | apply rN | apply rD)); exact HO209.out) hb); have n1_ := aM (Kd.R_elder' (by (with_reducible repeat (first | apply rA | apply rN | apply rD)); exact HO203.out) (Kd.R_base ho0) hb); have n2_ := aM (Kd.R_lower (Kd.R_new' ho0 (Kd.R_lt (by (with_reducible repeat (first | apply rA | apply rN | apply rD)); exact HO203.out))) (below_size (by repeat (first | (with_reducible first | exact HB.out | apply bA | apply pN | apply bD | refine below_set ?_ GE195.out | refine below_set ?_ GE198.out) | exact HB.out)))); have n3_ := aM (blk_below (g := gb195) (o := .cells #[.slice none 0 0, .slice none 0 0] 102 (0, 0)) (by (with_reducible repeat (first | refine kN ?_ _ | refine kD ?_ | refine kA ?_ _)); exact BK195.out) hb); have n4_ := aM (blk_below (g := gb198) (o := .cells #[.int .i64 ((rd_T77 ((rd_T96 l0 0).f0) a1).f0), .int .i64 ((rd_T77 ((rd_T96 l0 0).f0) a1).f1), .int .i64 ((rd_T77 ((rd_T96 l0 0).f0) a1).f2)] 77 (0, 0)) (by (with_reducible repeat (first | refine kN ?_ _ | refine kD ?_ | refine kA ?_ _)); exact BK198.out) hb); have n5_ := aM (bS (by repeat (first | (with_reducible first | exact HB.out | apply bA | apply pN | apply bD | refine below_set ?_ GE195.out | refine below_set ?_ GE198.out) | exact HB.out)) hb); clear HO209 HO203 BK195 BK198 HB; have HO209 := n0_; have HO203 := n1_; have HO206 := n2_; have BK195 := n3_; have BK198 := n4_; have HB := n5_; clear n0_ n1_ n2_ n3_ n4_ n5_
        (try clear hb)
        (try clear hb2)
        (try clear hk)
        (try clear hi)
        (try clear ho0)
        refine hK.out _ _ ⟨(blk_cell BK198.out 0).trans rfl, (blk_cell BK198.out 1).trans rfl, (blk_cell BK198.out 2).trans rfl, ((HB.out.cell (World.block_lt_of_cell? w _ hw199_0)).trans hw199_0), ((HB.out.cell (World.block_lt_of_cell? w _ hw199_1)).trans hw199_1), ((HB.out.cell (World.block_lt_of_cell? w _ hw199_2)).trans hw199_2), ((HB.out.cell (World.block_lt_of_cell? w _ hw200_0)).trans hw200_0)⟩ (fun hHeld => ?_)
        clear hK K
        refine norm_ (a' := ?_) ?_ ?_
        rotate_left
        ·show Act.put _ (some 26) _ = _
         simp only [Act.put, sI, sZ, sS, i64_w, i32_w]
         rfl
        exact norm_ (by simp only [putAll, Act.put, sI, sZ, sS]) (hCont (.slice Ao25 t201.length co25, v205, v208) _ ⟨hHeld, (by (with_reducible repeat (first | apply rA | apply rN | apply rD)); exact Kd.R_mono HO203.out (fun _ hk => hk.2)), (by (with_reducible repeat (first | apply rA | apply rN | apply rD)); exact Kd.R_mono HO206.out (fun _ hk => hk.2)), (by (with_reducible repeat (first | apply rA | apply rN | apply rD)); exact HO209.out), (by (with_reducible repeat (first | refine kN ?_ _ | refine kD ?_ | refine kA ?_ _)); exact BK195.out), (by (with_reducible repeat (first | refine kN ?_ _ | refine kD ?_ | refine kA ?_ _)); exact BK198.out), (by repeat (first | (with_reducible first | exact HB.out | apply bA | apply pN | apply bD | refine below_set ?_ GE195.out | refine below_set ?_ GE198.out) | exact HB.out))⟩)
      rintro ⟨v202, v205, v208⟩ w27 ⟨hS_, h0_, h1_, h2_, h3_, h4_, h5_⟩
      have n0_ : Aside0 (Kd.R (Kd.int .u64) 85 w27 w.heap.size (fun k_ => some k_ ≠ (v205 : Value).ownBlock) v202 t201) := ⟨h0_⟩
      have n1_ : Aside0 (Kd.R (Kd.int .u64) 85 w27 w.heap.size (fun k_ => some k_ ≠ (v202 : Value).ownBlock) v205 t204) := ⟨h1_⟩
      have n2_ : Aside0 (Kd.R (Kd.int .i64) 3 w27 w.heap.size (fun _ => True) v208 y207) := ⟨h2_⟩
      have n3_ : Aside0 (w27.heap[gb195]? = some (.cells #[.slice none 0 0, .slice none 0 0] 102 (0, 0))) := ⟨h3_⟩
      have n4_ : Aside0 (w27.heap[gb198]? = some (.cells #[.int .i64 ((rd_T77 ((rd_T96 l0 0).f0) a1).f0), .int .i64 ((rd_T77 ((rd_T96 l0 0).f0) a1).f1), .int .i64 ((rd_T77 ((rd_T96 l0 0).f0) a1).f2)] 77 (0, 0))) := ⟨h4_⟩
      have n5_ : Aside0 (Below w.heap.size w w27) := ⟨h5_⟩
      clear BK195 BK198 HB h0_ h1_ h2_ h3_ h4_ h5_; have HO203 := n0_; have HO206 := n1_; have HO209 := n2_; have BK195 := n3_; have BK198 := n4_; have HB := n5_; clear n0_ n1_ n2_ n3_ n4_ n5_
      have hHeld : w27.cell? ⟨gb198, 0, none⟩ = some (.int .i64 ((rd_T77 ((rd_T96 l0 0).f0) a1).f0)) ∧ w27.cell? ⟨gb198, 1, none⟩ = some (.int .i64 ((rd_T77 ((rd_T96 l0 0).f0) a1).f1)) ∧ w27.cell? ⟨gb198, 2, none⟩ = some (.int .i64 ((rd_T77 ((rd_T96 l0 0).f0) a1).f2)) ∧ w27.cell? ad196 = some (.slice A199_0 ((rd_T96 l0 0).f0).length c199_0) ∧ w27.cell? ⟨ad196.block, ad196.off + 1, none⟩ = some (.slice A199_1 ((rd_T96 l0 0).f1).length c199_1) ∧ w27.cell? ⟨ad196.block, ad196.off + 2, none⟩ = some (.slice (some ad200) ((rd_T96 l0 0).f2).length c199_2) ∧ w27.cell? (ad200.add (a1).toNat) = some (.slice A200_0 (rd_L3 ((rd_T96 l0 0).f2) a1).length c200_0) := hS_
      obtain ⟨Ao28, co28, eo28⟩ := Kd.R_slice HO209.out
      (first | subst eo28 | (injection eo28 with f1_ f2_ f3_; have f4_ := f1_.symm; have f5_ := f3_.symm; clear f1_ f2_ f3_; subst f4_; subst f5_))
      refine norm_ (a' := ?_) ?_ ?_
      rotate_left
      ·simp only [putAll, Act.put, sI, sZ, sS]
       rfl
      refine one_ (i := 17) (N := some 33) #[true, true, true, true, true, true, true, true, true, true, true, true, true, true, true, true, true, true, false, false] rfl rfl (one_of HT_.out (by kernel_rfl)) (by decide) (fun K hK => ?_)
      refine goes_ Try.func50 (by kernel_rfl) rfl #[.slice Ao28 y207.length co28] (by rfl) rfl rfl (by (try simp only [mA, List.map_cons, List.map_nil]); first | done | rfl | (simp only [List.length_drop, List.length_take]; rfl)) ?_
      with_reducible refine (load_product.calls k _ _ y207 t210 _ ?side1 ?side2 A10.out).mono ?_
      (case side1 => repeat (first | exact (Kd.R_reads' HO209.out).2.2 | (with_reducible refine cA ?_ _) | (with_reducible refine cN ?_ _) | (with_reducible refine cD ?_)))
      (case side2 => exact (Kd.R_reads' HO209.out).2.1)
      rintro e w29 ⟨v211, rfl, ho0, hb⟩
      refine ⟨_, rfl, ?_⟩
      have n0_ := aM (Kd.R_elder' (by (with_reducible repeat (first | apply rA | apply rN | apply rD)); exact HO203.out) (Kd.R_base ho0) hb); have n1_ := aM (Kd.R_elder' (by (with_reducible repeat (first | apply rA | apply rN | apply rD)); exact HO206.out) (Kd.R_base ho0) hb); have n2_ := aM (Kd.R_below (by (with_reducible repeat (first | apply rA | apply rN | apply rD)); exact HO209.out) hb); have n3_ := aM (Kd.R_lower (Kd.R_new' (Kd.R_new' ho0 (Kd.R_lt (by (with_reducible repeat (first | apply rA | apply rN | apply rD)); exact HO203.out))) (Kd.R_lt (by (with_reducible repeat (first | apply rA | apply rN | apply rD)); exact HO206.out))) (below_size (by repeat (first | (with_reducible first | exact HB.out | apply bA | apply pN | apply bD | refine below_set ?_ GE195.out | refine below_set ?_ GE198.out) | exact HB.out)))); have n4_ := aM (blk_below (g := gb195) (o := .cells #[.slice none 0 0, .slice none 0 0] 102 (0, 0)) (by (with_reducible repeat (first | refine kN ?_ _ | refine kD ?_ | refine kA ?_ _)); exact BK195.out) hb); have n5_ := aM (blk_below (g := gb198) (o := .cells #[.int .i64 ((rd_T77 ((rd_T96 l0 0).f0) a1).f0), .int .i64 ((rd_T77 ((rd_T96 l0 0).f0) a1).f1), .int .i64 ((rd_T77 ((rd_T96 l0 0).f0) a1).f2)] 77 (0, 0)) (by (with_reducible repeat (first | refine kN ?_ _ | refine kD ?_ | refine kA ?_ _)); exact BK198.out) hb); have n6_ := aM (bS (by repeat (first | (with_reducible first | exact HB.out | apply bA | apply pN | apply bD | refine below_set ?_ GE195.out | refine below_set ?_ GE198.out) | exact HB.out)) hb); clear HO203 HO206 HO209 BK195 BK198 HB; have HO203 := n0_; have HO206 := n1_; have HO209 := n2_; have HO212 := n3_; have BK195 := n4_; have BK198 := n5_; have HB := n6_; clear n0_ n1_ n2_ n3_ n4_ n5_ n6_
      (try clear hb)
      (try clear hb2)
      (try clear hk)
      (try clear hi)
      (try clear ho0)
      obtain ⟨Ao30, co30, eo30⟩ := Kd.R_slice HO206.out
      (first | subst eo30 | (injection eo30 with f1_ f2_ f3_; have f4_ := f1_.symm; have f5_ := f3_.symm; clear f1_ f2_ f3_; subst f4_; subst f5_))
      obtain ⟨Ao31, co31, eo31⟩ := Kd.R_slice HO212.out
      (first | subst eo31 | (injection eo31 with f1_ f2_ f3_; have f4_ := f1_.symm; have f5_ := f3_.symm; clear f1_ f2_ f3_; subst f4_; subst f5_))
      refine hK.out _ _ ⟨(blk_cell BK198.out 0).trans rfl, (blk_cell BK198.out 1).trans rfl, (blk_cell BK198.out 2).trans rfl, ((HB.out.cell (World.block_lt_of_cell? w _ hw199_0)).trans hw199_0), ((HB.out.cell (World.block_lt_of_cell? w _ hw199_1)).trans hw199_1), ((HB.out.cell (World.block_lt_of_cell? w _ hw199_2)).trans hw199_2), ((HB.out.cell (World.block_lt_of_cell? w _ hw200_0)).trans hw200_0)⟩ (fun hHeld => ?_)
      clear hK K
      refine norm_ (a' := ?_) ?_ ?_
      rotate_left
      ·show Act.put _ (some 33) _ = _
       simp only [Act.put, sI, sZ, sS, i64_w, i32_w]
       rfl
      refine one_ (i := 18) (N := some 34) #[true, true, true, true, true, true, true, true, true, true, true, true, true, true, true, true, true, true, true, false] rfl rfl (one_of HT_.out (by kernel_rfl)) (by decide) (fun K hK => ?_)
      refine goes_ Try.func49 (by kernel_rfl) rfl #[.slice Ao30 t204.length co30, .slice Ao31 t210.length co31] (by rfl) rfl rfl (by (try simp only [mA, List.map_cons, List.map_nil]); first | done | rfl | (simp only [List.length_drop, List.length_take]; rfl)) ?_
      with_reducible refine (nat_Add.calls k _ _ t204 _ _ t210 t213 _ ?side1 ?side2 ?side3 ?side4 A11.out).mono ?_
      (case side1 => repeat (first | exact (Kd.R_reads' HO206.out).2.2 | (with_reducible refine cA ?_ _) | (with_reducible refine cN ?_ _) | (with_reducible refine cD ?_)))
      (case side2 => exact (Kd.R_reads' HO206.out).2.1)
      (case side3 => repeat (first | exact (Kd.R_reads' HO212.out).2.2 | (with_reducible refine cA ?_ _) | (with_reducible refine cN ?_ _) | (with_reducible refine cD ?_)))
      (case side4 => exact (Kd.R_reads' HO212.out).2.1)
      rintro e w32 ⟨v214, rfl, ho0, hb⟩
      refine ⟨_, rfl, ?_⟩
      have n0_ := aM (Kd.R_elder' (by (with_reducible repeat (first | apply rA | apply rN | apply rD)); exact HO203.out) (Kd.R_base ho0) hb); have n1_ := aM (Kd.R_elder' (by (with_reducible repeat (first | apply rA | apply rN | apply rD)); exact HO206.out) (Kd.R_base ho0) hb); have n2_ := aM (Kd.R_below (by (with_reducible repeat (first | apply rA | apply rN | apply rD)); exact HO209.out) hb); have n3_ := aM (Kd.R_elder' (by (with_reducible repeat (first | apply rA | apply rN | apply rD)); exact HO212.out) (Kd.R_base ho0) hb); have n4_ := aM (Kd.R_lower (Kd.R_new' (Kd.R_new' (Kd.R_new' ho0 (Kd.R_lt (by (with_reducible repeat (first | apply rA | apply rN | apply rD)); exact HO203.out))) (Kd.R_lt (by (with_reducible repeat (first | apply rA | apply rN | apply rD)); exact HO206.out))) (Kd.R_lt (by (with_reducible repeat (first | apply rA | apply rN | apply rD)); exact HO212.out))) (below_size (by repeat (first | (with_reducible first | exact HB.out | apply bA | apply pN | apply bD | refine below_set ?_ GE195.out | refine below_set ?_ GE198.out) | exact HB.out)))); have n5_ := aM (blk_below (g := gb195) (o := .cells #[.slice none 0 0, .slice none 0 0] 102 (0, 0)) (by (with_reducible repeat (first | refine kN ?_ _ | refine kD ?_ | refine kA ?_ _)); exact BK195.out) hb); have n6_ := aM (blk_below (g := gb198) (o := .cells #[.int .i64 ((rd_T77 ((rd_T96 l0 0).f0) a1).f0), .int .i64 ((rd_T77 ((rd_T96 l0 0).f0) a1).f1), .int .i64 ((rd_T77 ((rd_T96 l0 0).f0) a1).f2)] 77 (0, 0)) (by (with_reducible repeat (first | refine kN ?_ _ | refine kD ?_ | refine kA ?_ _)); exact BK198.out) hb); have n7_ := aM (bS (by repeat (first | (with_reducible first | exact HB.out | apply bA | apply pN | apply bD | refine below_set ?_ GE195.out | refine below_set ?_ GE198.out) | exact HB.out)) hb); clear HO203 HO206 HO209 HO212 BK195 BK198 HB; have HO203 := n0_; have HO206 := n1_; have HO209 := n2_; have HO212 := n3_; have HO215 := n4_; have BK195 := n5_; have BK198 := n6_; have HB := n7_; clear n0_ n1_ n2_ n3_ n4_ n5_ n6_ n7_
      (try clear hb)
      (try clear hb2)
      (try clear hk)
      (try clear hi)
      (try clear ho0)
      refine hK.out _ _ ⟨(blk_cell BK198.out 0).trans rfl, (blk_cell BK198.out 1).trans rfl, (blk_cell BK198.out 2).trans rfl, ((HB.out.cell (World.block_lt_of_cell? w _ hw199_0)).trans hw199_0), ((HB.out.cell (World.block_lt_of_cell? w _ hw199_1)).trans hw199_1), ((HB.out.cell (World.block_lt_of_cell? w _ hw199_2)).trans hw199_2), ((HB.out.cell (World.block_lt_of_cell? w _ hw200_0)).trans hw200_0)⟩ (fun hHeld => ?_)
      clear hK K
      refine norm_ (a' := ?_) ?_ ?_
      rotate_left
      ·show Act.put _ (some 34) _ = _
       simp only [Act.put, sI, sZ, sS, i64_w, i32_w]
       rfl
      refine pure_ (i := 19) (N := some 8) (v := ?_) (a' := ?_) #[true, true, true, true, true, true, true, true, true, true, true, true, true, true, true, true, true, true, true, true] rfl rfl (any_of HT_.out (by kernel_rfl)) (fun _ _ _ h => h) (Or.inl ⟨by rfl, ?_⟩) ?_ ?_
      rotate_left
      ·intro w'
       go_simp
       with_reducible rfl
      rotate_left
      ·simp only [Act.put, sI, sZ, sS, i64_w, i32_w]
       rfl
      refine done_ (done_of HT_.out (by kernel_rfl)) ?_
      have hcz33_0 : w32.cell? ⟨gb198, 0, none⟩ = some (.int .i64 ((rd_T77 ((rd_T96 l0 0).f0) a1).f0)) := (blk_cell BK198.out 0).trans rfl
      have hcz33_1 : w32.cell? ⟨gb198, 1, none⟩ = some (.int .i64 ((rd_T77 ((rd_T96 l0 0).f0) a1).f1)) := (blk_cell BK198.out 1).trans rfl
      have hcz33_2 : w32.cell? ⟨gb198, 2, none⟩ = some (.int .i64 ((rd_T77 ((rd_T96 l0 0).f0) a1).f2)) := (blk_cell BK198.out 2).trans rfl
      have hfz33_0 := blk_frozen BK198.out 0
      have hfz33_1 := blk_frozen BK198.out 1
      have hfz33_2 := blk_frozen BK198.out 2
      try go_wp2_with (first | ((with_reducible refine gate_dst (N := 48) rfl ?_); refine Kd.R_lit (Kd.int .i64) _ 3 ?hg (N := 48) ?hd (xs := ([wrap64 (((rd_T77 ((rd_T96 l0 0).f0) a1).f2) - ((rd_T77 ((rd_T96 l0 0).f0) a1).f1)), a2, a2] : List Int)) (inner := [.int .i64 (wrap64 (((rd_T77 ((rd_T96 l0 0).f0) a1).f2) - ((rd_T77 ((rd_T96 l0 0).f0) a1).f1))), .int .i64 a2, .int .i64 a2]) (ok := fun _ => True) (okp := fun _ => True) ?hr ?hp (fun _ hk => hk) trivial (Below.refl _ _) (Nat.le_refl _) (by simp) ?_; (case hd => rfl); (case hg => rfl); (case hr => first | (go_simp; done) | (go_simp; rfl)); (case hp => exact (Reps.one (show Kd.M (Kd.int .i64) _ _ _ (wrap64 (((rd_T77 ((rd_T96 l0 0).f0) a1).f2) - ((rd_T77 ((rd_T96 l0 0).f0) a1).f1))) [.int .i64 (wrap64 (((rd_T77 ((rd_T96 l0 0).f0) a1).f2) - ((rd_T77 ((rd_T96 l0 0).f0) a1).f1)))] from rfl) (Reps.one (show Kd.M (Kd.int .i64) _ _ _ a2 [.int .i64 a2] from rfl) (Reps.one (show Kd.M (Kd.int .i64) _ _ _ a2 [.int .i64 a2] from rfl) (Reps.none _ _))))); intro v217 w34 ho35 hb hg_ hnew_; clear hg_ hnew_; (first | rw [← Ny216.out] at ho35 | (simp only [Int.reduceToNat] at ho35; rw [← Ny216.out] at ho35)); have n0_ := aM (Kd.R_below (by (with_reducible repeat (first | apply rA | apply rN | apply rD)); exact HO203.out) hb); have n1_ := aM (Kd.R_below (by (with_reducible repeat (first | apply rA | apply rN | apply rD)); exact HO206.out) hb); have n2_ := aM (Kd.R_elder' (by (with_reducible repeat (first | apply rA | apply rN | apply rD)); exact HO209.out) (Kd.R_base ho35) hb); have n3_ := aM (Kd.R_below (by (with_reducible repeat (first | apply rA | apply rN | apply rD)); exact HO212.out) hb); have n4_ := aM (Kd.R_below (by (with_reducible repeat (first | apply rA | apply rN | apply rD)); exact HO215.out) hb); have n5_ := aM (Kd.R_lower (Kd.R_new' ho35 (Kd.R_lt (by (with_reducible repeat (first | apply rA | apply rN | apply rD)); exact HO209.out))) (below_size (by repeat (first | (with_reducible first | exact HB.out | apply bA | apply pN | apply bD | refine below_set ?_ GE195.out | refine below_set ?_ GE198.out) | exact HB.out)))); have n6_ := aM (blk_below (g := gb195) (o := .cells #[.slice none 0 0, .slice none 0 0] 102 (0, 0)) (by (with_reducible repeat (first | refine kN ?_ _ | refine kD ?_ | refine kA ?_ _)); exact BK195.out) hb); have n7_ := aM (blk_below (g := gb198) (o := .cells #[.int .i64 ((rd_T77 ((rd_T96 l0 0).f0) a1).f0), .int .i64 ((rd_T77 ((rd_T96 l0 0).f0) a1).f1), .int .i64 ((rd_T77 ((rd_T96 l0 0).f0) a1).f2)] 77 (0, 0)) (by (with_reducible repeat (first | refine kN ?_ _ | refine kD ?_ | refine kA ?_ _)); exact BK198.out) hb); have n8_ := aM (bS (by repeat (first | (with_reducible first | exact HB.out | apply bA | apply pN | apply bD | refine below_set ?_ GE195.out | refine below_set ?_ GE198.out) | exact HB.out)) hb); clear HO203 HO206 HO209 HO212 HO215 BK195 BK198 HB; have HO203 := n0_; have HO206 := n1_; have HO209 := n2_; have HO212 := n3_; have HO215 := n4_; have HO218 := n5_; have BK195 := n6_; have BK198 := n7_; have HB := n8_; clear n0_ n1_ n2_ n3_ n4_ n5_ n6_ n7_ n8_ hb ho35; obtain ⟨Ao36, co36, eo36⟩ := Kd.R_slice HO218.out; subst eo36) | ((with_reducible refine gC (f := 50) rfl ?_); refine gL (some 49) rfl rfl Try.func50 (by kernel_rfl) rfl #[.slice Ao36 y216.length co36] rfl (by (try simp only [mA, List.map_cons, List.map_nil]); first | done | rfl | (simp only [List.length_drop, List.length_take]; rfl)) ?_; (with_reducible refine (load_product.calls k _ _ y216 t219 _ ?side1 ?side2 A13.out).mono ?_); (case side1 => repeat (first | exact (Kd.R_reads' HO218.out).2.2 | (with_reducible refine cA ?_ _) | (with_reducible refine cN ?_ _) | (with_reducible refine cD ?_))); (case side2 => exact (Kd.R_reads' HO218.out).2.1); rintro e w37 ⟨v220, rfl, ho0, hb⟩; refine ⟨_, rfl, ?_⟩; have n0_ := aM (Kd.R_elder' (by (with_reducible repeat (first | apply rA | apply rN | apply rD)); exact HO203.out) (Kd.R_base ho0) hb); have n1_ := aM (Kd.R_elder' (by (with_reducible repeat (first | apply rA | apply rN | apply rD)); exact HO206.out) (Kd.R_base ho0) hb); have n2_ := aM (Kd.R_below (by (with_reducible repeat (first | apply rA | apply rN | apply rD)); exact HO209.out) hb); have n3_ := aM (Kd.R_elder' (by (with_reducible repeat (first | apply rA | apply rN | apply rD)); exact HO212.out) (Kd.R_base ho0) hb); have n4_ := aM (Kd.R_elder' (by (with_reducible repeat (first | apply rA | apply rN | apply rD)); exact HO215.out) (Kd.R_base ho0) hb); have n5_ := aM (Kd.R_below (by (with_reducible repeat (first | apply rA | apply rN | apply rD)); exact HO218.out) hb); have n6_ := aM (Kd.R_lower (Kd.R_new' (Kd.R_new' (Kd.R_new' (Kd.R_new' ho0 (Kd.R_lt (by (with_reducible repeat (first | apply rA | apply rN | apply rD)); exact HO203.out))) (Kd.R_lt (by (with_reducible repeat (first | apply rA | apply rN | apply rD)); exact HO206.out))) (Kd.R_lt (by (with_reducible repeat (first | apply rA | apply rN | apply rD)); exact HO212.out))) (Kd.R_lt (by (with_reducible repeat (first | apply rA | apply rN | apply rD)); exact HO215.out))) (below_size (by repeat (first | (with_reducible first | exact HB.out | apply bA | apply pN | apply bD | refine below_set ?_ GE195.out | refine below_set ?_ GE198.out) | exact HB.out)))); have n7_ := aM (blk_below (g := gb195) (o := .cells #[.slice none 0 0, .slice none 0 0] 102 (0, 0)) (by (with_reducible repeat (first | refine kN ?_ _ | refine kD ?_ | refine kA ?_ _)); exact BK195.out) hb); have n8_ := aM (blk_below (g := gb198) (o := .cells #[.int .i64 ((rd_T77 ((rd_T96 l0 0).f0) a1).f0), .int .i64 ((rd_T77 ((rd_T96 l0 0).f0) a1).f1), .int .i64 ((rd_T77 ((rd_T96 l0 0).f0) a1).f2)] 77 (0, 0)) (by (with_reducible repeat (first | refine kN ?_ _ | refine kD ?_ | refine kA ?_ _)); exact BK198.out) hb); have n9_ := aM (bS (by repeat (first | (with_reducible first | exact HB.out | apply bA | apply pN | apply bD | refine below_set ?_ GE195.out | refine below_set ?_ GE198.out) | exact HB.out)) hb); clear HO203 HO206 HO209 HO212 HO215 HO218 BK195 BK198 HB; have HO203 := n0_; have HO206 := n1_; have HO209 := n2_; have HO212 := n3_; have HO215 := n4_; have HO218 := n5_; have HO221 := n6_; have BK195 := n7_; have BK198 := n8_; have HB := n9_; clear n0_ n1_ n2_ n3_ n4_ n5_ n6_ n7_ n8_ n9_; (try clear hb); (try clear hb2); (try clear hk); (try clear hi); (try clear ho0); obtain ⟨Ao38, co38, eo38⟩ := Kd.R_slice HO215.out; subst eo38; obtain ⟨Ao39, co39, eo39⟩ := Kd.R_slice HO221.out; subst eo39) | ((with_reducible refine gC (f := 49) rfl ?_); refine gL (some 50) rfl rfl Try.func49 (by kernel_rfl) rfl #[.slice Ao38 t213.length co38, .slice Ao39 t219.length co39] rfl (by (try simp only [mA, List.map_cons, List.map_nil]); first | done | rfl | (simp only [List.length_drop, List.length_take]; rfl)) ?_; (with_reducible refine (nat_Add.calls k _ _ t213 _ _ t219 t222 _ ?side1 ?side2 ?side3 ?side4 A14.out).mono ?_); (case side1 => repeat (first | exact (Kd.R_reads' HO215.out).2.2 | (with_reducible refine cA ?_ _) | (with_reducible refine cN ?_ _) | (with_reducible refine cD ?_))); (case side2 => exact (Kd.R_reads' HO215.out).2.1); (case side3 => repeat (first | exact (Kd.R_reads' HO221.out).2.2 | (with_reducible refine cA ?_ _) | (with_reducible refine cN ?_ _) | (with_reducible refine cD ?_))); (case side4 => exact (Kd.R_reads' HO221.out).2.1); rintro e w40 ⟨v223, rfl, ho0, hb⟩; refine ⟨_, rfl, ?_⟩; have n0_ := aM (Kd.R_elder' (by (with_reducible repeat (first | apply rA | apply rN | apply rD)); exact HO203.out) (Kd.R_base ho0) hb); have n1_ := aM (Kd.R_elder' (by (with_reducible repeat (first | apply rA | apply rN | apply rD)); exact HO206.out) (Kd.R_base ho0) hb); have n2_ := aM (Kd.R_below (by (with_reducible repeat (first | apply rA | apply rN | apply rD)); exact HO209.out) hb); have n3_ := aM (Kd.R_elder' (by (with_reducible repeat (first | apply rA | apply rN | apply rD)); exact HO212.out) (Kd.R_base ho0) hb); have n4_ := aM (Kd.R_elder' (by (with_reducible repeat (first | apply rA | apply rN | apply rD)); exact HO215.out) (Kd.R_base ho0) hb); have n5_ := aM (Kd.R_below (by (with_reducible repeat (first | apply rA | apply rN | apply rD)); exact HO218.out) hb); have n6_ := aM (Kd.R_elder' (by (with_reducible repeat (first | apply rA | apply rN | apply rD)); exact HO221.out) (Kd.R_base ho0) hb); have n7_ := aM (Kd.R_lower (Kd.R_new' (Kd.R_new' (Kd.R_new' (Kd.R_new' (Kd.R_new' ho0 (Kd.R_lt (by (with_reducible repeat (first | apply rA | apply rN | apply rD)); exact HO203.out))) (Kd.R_lt (by (with_reducible repeat (first | apply rA | apply rN | apply rD)); exact HO206.out))) (Kd.R_lt (by (with_reducible repeat (first | apply rA | apply rN | apply rD)); exact HO212.out))) (Kd.R_lt (by (with_reducible repeat (first | apply rA | apply rN | apply rD)); exact HO215.out))) (Kd.R_lt (by (with_reducible repeat (first | apply rA | apply rN | apply rD)); exact HO221.out))) (below_size (by repeat (first | (with_reducible first | exact HB.out | apply bA | apply pN | apply bD | refine below_set ?_ GE195.out | refine below_set ?_ GE198.out) | exact HB.out)))); have n8_ := aM (blk_below (g := gb195) (o := .cells #[.slice none 0 0, .slice none 0 0] 102 (0, 0)) (by (with_reducible repeat (first | refine kN ?_ _ | refine kD ?_ | refine kA ?_ _)); exact BK195.out) hb); have n9_ := aM (blk_below (g := gb198) (o := .cells #[.int .i64 ((rd_T77 ((rd_T96 l0 0).f0) a1).f0), .int .i64 ((rd_T77 ((rd_T96 l0 0).f0) a1).f1), .int .i64 ((rd_T77 ((rd_T96 l0 0).f0) a1).f2)] 77 (0, 0)) (by (with_reducible repeat (first | refine kN ?_ _ | refine kD ?_ | refine kA ?_ _)); exact BK198.out) hb); have n10_ := aM (bS (by repeat (first | (with_reducible first | exact HB.out | apply bA | apply pN | apply bD | refine below_set ?_ GE195.out | refine below_set ?_ GE198.out) | exact HB.out)) hb); clear HO203 HO206 HO209 HO212 HO215 HO218 HO221 BK195 BK198 HB; have HO203 := n0_; have HO206 := n1_; have HO209 := n2_; have HO212 := n3_; have HO215 := n4_; have HO218 := n5_; have HO221 := n6_; have HO224 := n7_; have BK195 := n8_; have BK198 := n9_; have HB := n10_; clear n0_ n1_ n2_ n3_ n4_ n5_ n6_ n7_ n8_ n9_ n10_; (try clear hb); (try clear hb2); (try clear hk); (try clear hi); (try clear ho0); have hcz41_0 : w40.cell? ⟨gb198, 0, none⟩ = some (.int .i64 ((rd_T77 ((rd_T96 l0 0).f0) a1).f0)) := (blk_cell BK198.out 0).trans rfl; have hcz41_1 : w40.cell? ⟨gb198, 1, none⟩ = some (.int .i64 ((rd_T77 ((rd_T96 l0 0).f0) a1).f1)) := (blk_cell BK198.out 1).trans rfl; have hcz41_2 : w40.cell? ⟨gb198, 2, none⟩ = some (.int .i64 ((rd_T77 ((rd_T96 l0 0).f0) a1).f2)) := (blk_cell BK198.out 2).trans rfl; have hfz41_0 := blk_frozen BK198.out 0; have hfz41_1 := blk_frozen BK198.out 1; have hfz41_2 := blk_frozen BK198.out 2) | ((with_reducible refine gate_dst (N := 65) rfl ?_); refine Kd.R_lit (Kd.int .i64) _ 3 ?hg (N := 65) ?hd (xs := ([2, (rd_T77 ((rd_T96 l0 0).f0) a1).f0, 1000000000] : List Int)) (inner := [.int .i64 2, .int .i64 ((rd_T77 ((rd_T96 l0 0).f0) a1).f0), .int .i64 1000000000]) (ok := fun _ => True) (okp := fun _ => True) ?hr ?hp (fun _ hk => hk) trivial (Below.refl _ _) (Nat.le_refl _) (by simp) ?_; (case hd => rfl); (case hg => rfl); (case hr => first | (go_simp; done) | (go_simp; rfl)); (case hp => exact (Reps.one (show Kd.M (Kd.int .i64) _ _ _ 2 [.int .i64 2] from rfl) (Reps.one (show Kd.M (Kd.int .i64) _ _ _ ((rd_T77 ((rd_T96 l0 0).f0) a1).f0) [.int .i64 ((rd_T77 ((rd_T96 l0 0).f0) a1).f0)] from rfl) (Reps.one (show Kd.M (Kd.int .i64) _ _ _ 1000000000 [.int .i64 1000000000] from rfl) (Reps.none _ _))))); intro v226 w42 ho43 hb hg_ hnew_; clear hg_ hnew_; (first | rw [← Ny225.out] at ho43 | (simp only [Int.reduceToNat] at ho43; rw [← Ny225.out] at ho43)); have n0_ := aM (Kd.R_below (by (with_reducible repeat (first | apply rA | apply rN | apply rD)); exact HO203.out) hb); have n1_ := aM (Kd.R_below (by (with_reducible repeat (first | apply rA | apply rN | apply rD)); exact HO206.out) hb); have n2_ := aM (Kd.R_elder' (by (with_reducible repeat (first | apply rA | apply rN | apply rD)); exact HO209.out) (Kd.R_base ho43) hb); have n3_ := aM (Kd.R_below (by (with_reducible repeat (first | apply rA | apply rN | apply rD)); exact HO212.out) hb); have n4_ := aM (Kd.R_below (by (with_reducible repeat (first | apply rA | apply rN | apply rD)); exact HO215.out) hb); have n5_ := aM (Kd.R_elder' (by (with_reducible repeat (first | apply rA | apply rN | apply rD)); exact HO218.out) (Kd.R_base ho43) hb); have n6_ := aM (Kd.R_below (by (with_reducible repeat (first | apply rA | apply rN | apply rD)); exact HO221.out) hb); have n7_ := aM (Kd.R_below (by (with_reducible repeat (first | apply rA | apply rN | apply rD)); exact HO224.out) hb); have n8_ := aM (Kd.R_lower (Kd.R_new' (Kd.R_new' ho43 (Kd.R_lt (by (with_reducible repeat (first | apply rA | apply rN | apply rD)); exact HO209.out))) (Kd.R_lt (by (with_reducible repeat (first | apply rA | apply rN | apply rD)); exact HO218.out))) (below_size (by repeat (first | (with_reducible first | exact HB.out | apply bA | apply pN | apply bD | refine below_set ?_ GE195.out | refine below_set ?_ GE198.out) | exact HB.out)))); have n9_ := aM (blk_below (g := gb195) (o := .cells #[.slice none 0 0, .slice none 0 0] 102 (0, 0)) (by (with_reducible repeat (first | refine kN ?_ _ | refine kD ?_ | refine kA ?_ _)); exact BK195.out) hb); have n10_ := aM (blk_below (g := gb198) (o := .cells #[.int .i64 ((rd_T77 ((rd_T96 l0 0).f0) a1).f0), .int .i64 ((rd_T77 ((rd_T96 l0 0).f0) a1).f1), .int .i64 ((rd_T77 ((rd_T96 l0 0).f0) a1).f2)] 77 (0, 0)) (by (with_reducible repeat (first | refine kN ?_ _ | refine kD ?_ | refine kA ?_ _)); exact BK198.out) hb); have n11_ := aM (bS (by repeat (first | (with_reducible first | exact HB.out | apply bA | apply pN | apply bD | refine below_set ?_ GE195.out | refine below_set ?_ GE198.out) | exact HB.out)) hb); clear HO203 HO206 HO209 HO212 HO215 HO218 HO221 HO224 BK195 BK198 HB; have HO203 := n0_; have HO206 := n1_; have HO209 := n2_; have HO212 := n3_; have HO215 := n4_; have HO218 := n5_; have HO221 := n6_; have HO224 := n7_; have HO227 := n8_; have BK195 := n9_; have BK198 := n10_; have HB := n11_; clear n0_ n1_ n2_ n3_ n4_ n5_ n6_ n7_ n8_ n9_ n10_ n11_ hb ho43; obtain ⟨Ao44, co44, eo44⟩ := Kd.R_slice HO227.out; subst eo44) | ((with_reducible refine gC (f := 50) rfl ?_); refine gL (some 66) rfl rfl Try.func50 (by kernel_rfl) rfl #[.slice Ao44 y225.length co44] rfl (by (try simp only [mA, List.map_cons, List.map_nil]); first | done | rfl | (simp only [List.length_drop, List.length_take]; rfl)) ?_; (with_reducible refine (load_product.calls k _ _ y225 t228 _ ?side1 ?side2 A15.out).mono ?_); (case side1 => repeat (first | exact (Kd.R_reads' HO227.out).2.2 | (with_reducible refine cA ?_ _) | (with_reducible refine cN ?_ _) | (with_reducible refine cD ?_))); (case side2 => exact (Kd.R_reads' HO227.out).2.1); rintro e w45 ⟨v229, rfl, ho0, hb⟩; refine ⟨_, rfl, ?_⟩; have n0_ := aM (Kd.R_elder' (by (with_reducible repeat (first | apply rA | apply rN | apply rD)); exact HO203.out) (Kd.R_base ho0) hb); have n1_ := aM (Kd.R_elder' (by (with_reducible repeat (first | apply rA | apply rN | apply rD)); exact HO206.out) (Kd.R_base ho0) hb); have n2_ := aM (Kd.R_below (by (with_reducible repeat (first | apply rA | apply rN | apply rD)); exact HO209.out) hb); have n3_ := aM (Kd.R_elder' (by (with_reducible repeat (first | apply rA | apply rN | apply rD)); exact HO212.out) (Kd.R_base ho0) hb); have n4_ := aM (Kd.R_elder' (by (with_reducible repeat (first | apply rA | apply rN | apply rD)); exact HO215.out) (Kd.R_base ho0) hb); have n5_ := aM (Kd.R_below (by (with_reducible repeat (first | apply rA | apply rN | apply rD)); exact HO218.out) hb); have n6_ := aM (Kd.R_elder' (by (with_reducible repeat (first | apply rA | apply rN | apply rD)); exact HO221.out) (Kd.R_base ho0) hb); have n7_ := aM (Kd.R_elder' (by (with_reducible repeat (first | apply rA | apply rN | apply rD)); exact HO224.out) (Kd.R_base ho0) hb); have n8_ := aM (Kd.R_below (by (with_reducible repeat (first | apply rA | apply rN | apply rD)); exact HO227.out) hb); have n9_ := aM (Kd.R_lower (Kd.R_new' (Kd.R_new' (Kd.R_new' (Kd.R_new' (Kd.R_new' (Kd.R_new' ho0 (Kd.R_lt (by (with_reducible repeat (first | apply rA | apply rN | apply rD)); exact HO203.out))) (Kd.R_lt (by (with_reducible repeat (first | apply rA | apply rN | apply rD)); exact HO206.out))) (Kd.R_lt (by (with_reducible repeat (first | apply rA | apply rN | apply rD)); exact HO212.out))) (Kd.R_lt (by (with_reducible repeat (first | apply rA | apply rN | apply rD)); exact HO215.out))) (Kd.R_lt (by (with_reducible repeat (first | apply rA | apply rN | apply rD)); exact HO221.out))) (Kd.R_lt (by (with_reducible repeat (first | apply rA | apply rN | apply rD)); exact HO224.out))) (below_size (by repeat (first | (with_reducible first | exact HB.out | apply bA | apply pN | apply bD | refine below_set ?_ GE195.out | refine below_set ?_ GE198.out) | exact HB.out)))); have n10_ := aM (blk_below (g := gb195) (o := .cells #[.slice none 0 0, .slice none 0 0] 102 (0, 0)) (by (with_reducible repeat (first | refine kN ?_ _ | refine kD ?_ | refine kA ?_ _)); exact BK195.out) hb); have n11_ := aM (blk_below (g := gb198) (o := .cells #[.int .i64 ((rd_T77 ((rd_T96 l0 0).f0) a1).f0), .int .i64 ((rd_T77 ((rd_T96 l0 0).f0) a1).f1), .int .i64 ((rd_T77 ((rd_T96 l0 0).f0) a1).f2)] 77 (0, 0)) (by (with_reducible repeat (first | refine kN ?_ _ | refine kD ?_ | refine kA ?_ _)); exact BK198.out) hb); have n12_ := aM (bS (by repeat (first | (with_reducible first | exact HB.out | apply bA | apply pN | apply bD | refine below_set ?_ GE195.out | refine below_set ?_ GE198.out) | exact HB.out)) hb); clear HO203 HO206 HO209 HO212 HO215 HO218 HO221 HO224 HO227 BK195 BK198 HB; have HO203 := n0_; have HO206 := n1_; have HO209 := n2_; have HO212 := n3_; have HO215 := n4_; have HO218 := n5_; have HO221 := n6_; have HO224 := n7_; have HO227 := n8_; have HO230 := n9_; have BK195 := n10_; have BK198 := n11_; have HB := n12_; clear n0_ n1_ n2_ n3_ n4_ n5_ n6_ n7_ n8_ n9_ n10_ n11_ n12_; (try clear hb); (try clear hb2); (try clear hk); (try clear hi); (try clear ho0); obtain ⟨Ao46, co46, eo46⟩ := Kd.R_slice HO230.out; subst eo46; obtain ⟨Ao47, co47, eo47⟩ := Kd.R_slice HO224.out; subst eo47; have hcz48_0 : w45.cell? ⟨gb195, 0, none⟩ = some (.slice none 0 0) := (blk_cell BK195.out 0).trans rfl; have hcz48_1 : w45.cell? ⟨gb195, 1, none⟩ = some (.slice none 0 0) := (blk_cell BK195.out 1).trans rfl; have hfz48_0 := blk_frozen BK195.out 0; have hfz48_1 := blk_frozen BK195.out 1))
      refine bodyPost_ret (results_cell_row rfl _ _ gb195 102 #[.slice Ao47 t222.length co47, .slice Ao46 t228.length co46] (0, 0) _ rfl (by (with_reducible repeat (first | refine kN ?_ _ | refine kD ?_ | refine kA ?_ _)); refine blk_put (cs := #[.slice Ao47 t222.length co47, .slice none 0 0]) ?_ 1 _ rfl; (with_reducible repeat (first | refine kN ?_ _ | refine kD ?_ | refine kA ?_ _)); refine blk_put (cs := #[.slice none 0 0, .slice none 0 0]) ?_ 0 _ rfl; (with_reducible repeat (first | refine kN ?_ _ | refine kD ?_ | refine kA ?_ _)); exact BK195.out) Try.underlying102 rfl (by kernel_rfl)) rfl ?_
      exact ⟨_, _, by first | rfl | (simp [errW_none, errW_some] <;> rfl) | (simp [*, errW_none, errW_some] <;> rfl), by (with_reducible repeat (first | apply rA | apply rN | apply rD)); exact Kd.R_mono (Kd.R_far (p := ⟨gb195, 1, none⟩) (Kd.R_far (p := ⟨gb195, 0, none⟩) (Kd.R_types HO224.out BK195.out (by decide)) (fun _ hk => hk.2) (.slice Ao47 t222.length co47)) (fun _ hk => hk.2) (.slice Ao46 t228.length co46)) (fun _ hk => hk.1.2), by (with_reducible repeat (first | apply rA | apply rN | apply rD)); exact Kd.R_mono (Kd.R_far (p := ⟨gb195, 1, none⟩) (Kd.R_far (p := ⟨gb195, 0, none⟩) (Kd.R_types HO230.out BK195.out (by decide)) (fun _ hk => hk.2) (.slice Ao47 t222.length co47)) (fun _ hk => hk.2) (.slice Ao46 t228.length co46)) (fun _ hk => hk.1.2), by repeat (first | (with_reducible first | exact HB.out | apply bA | apply pN | apply bD | refine below_set ?_ GE195.out | refine below_set ?_ GE198.out) | exact HB.out)⟩
     ·rw [if_neg c12] at H
      have c12b0 : decide (((rd_T77 ((rd_T96 l0 0).f0) a1).f1) ≤ ((rd_T77 ((rd_T96 l0 0).f0) a1).f2)) = false := decide_eq_false c12
      clear c12
      obtain ⟨y231, hy231⟩ : ∃ y_ : List Int, y_ = (([wrap64 (((rd_T77 ((rd_T96 l0 0).f0) a1).f1) - ((rd_T77 ((rd_T96 l0 0).f0) a1).f2)), a2, a2] : List Int)) := ⟨_, rfl⟩
      replace H : ((load_product.f k y231).bind fun t234 => ((nat_Sub.f k t213 t234).bind fun t237 => ((load_product.f k (([2, (rd_T77 ((rd_T96 l0 0).f0) a1).f0, 1000000000] : List Int))).bind fun t243 => (some (t237, t243))))) = some (r1, r2) := by first | (rw [hy231]; with_reducible exact H) | (have H2_ := (Option.bind_some _ _).symm.trans H; rw [hy231]; with_reducible exact H2_) | (have H2_ := (Option.bind_some _ _).symm.trans H; with_reducible exact H2_) | with_reducible exact H | (rw [hy231]; exact H) | exact H
      have Ny231 := aM hy231
      clear hy231
      replace H := oB H
      obtain ⟨t234, A490, H⟩ := H
      replace H : ((nat_Sub.f k t213 t234).bind fun t237 => ((load_product.f k (([2, (rd_T77 ((rd_T96 l0 0).f0) a1).f0, 1000000000] : List Int))).bind fun t243 => (some (t237, t243)))) = some (r1, r2) := H
      have A49 := aM A490; clear A490
      replace H := oB H
      obtain ⟨t237, A500, H⟩ := H
      replace H : ((load_product.f k (([2, (rd_T77 ((rd_T96 l0 0).f0) a1).f0, 1000000000] : List Int))).bind fun t243 => (some (t237, t243))) = some (r1, r2) := H
      have A50 := aM A500; clear A500
      obtain ⟨y240, hy240⟩ : ∃ y_ : List Int, y_ = (([2, (rd_T77 ((rd_T96 l0 0).f0) a1).f0, 1000000000] : List Int)) := ⟨_, rfl⟩
      replace H : ((load_product.f k y240).bind fun t243 => (some (t237, t243))) = some (r1, r2) := by first | (rw [hy240]; with_reducible exact H) | (have H2_ := (Option.bind_some _ _).symm.trans H; rw [hy240]; with_reducible exact H2_) | (have H2_ := (Option.bind_some _ _).symm.trans H; with_reducible exact H2_) | with_reducible exact H | (rw [hy240]; exact H) | exact H
      have Ny240 := aM hy240
      clear hy240
      replace H := oB H
      obtain ⟨t243, A510, H⟩ := H
      replace H : (some (t237, t243)) = some (r1, r2) := H
      have A51 := aM A510; clear A510
      simp only [Option.some.injEq, Prod.mk.injEq] at H
      obtain ⟨rfl, rfl⟩ := H
      go_enter Try.func76, Try.ntmps76
      try go_wp2_with (first | ((with_reducible refine gate_dst (N := 6) rfl ?_); refine box_event ?hg (N := 6) ?hd (cs := #[.slice none 0 0, .slice none 0 0]) (t := 102) ?hr ?_; (case hd => rfl); (case hg => rfl); (case hr => first | (go_simp; done) | (go_simp; rfl)); intro gb195 hg w52 hbox hb; have n0_ := aM (bS (by repeat (first | (with_reducible first | exact HB.out | apply bA | apply pN | apply bD) | exact HB.out)) hb); have n1_ := aM (hbox); have n2_ := aM ((by rw [hg]; exact (below_size (by repeat (first | (with_reducible first | exact HB.out | apply bA | apply pN | apply bD) | exact HB.out))) : w.heap.size ≤ gb195)); have n3_ := aM ((by rw [hg]; exact (below_size (by repeat (first | (with_reducible first | exact HB.out | apply bA | apply pN | apply bD) | exact HB.out))) : w.heap.size ≤ gb195)); clear HB; have HB := n0_; have BK195 := n1_; have GW195 := n2_; have GE195 := n3_; clear n0_ n1_ n2_ n3_ hb hbox hg; have p196 : 0 ≤ (0 : Int) := (by omega); have q196 : 0 < (l0.length : Int) := oD (by first | (with_reducible assumption) | assumption); obtain ⟨ad196, A196_0, c196_0, A196_1, c196_1, A196_2, c196_2, e196, hx196_0, hx196_1, hx196_2, hl196_0, hi196_0, hl196_1, hi196_1, hl196_2, hi196_2⟩ := at_T96 HR0.out 0 p196 q196; have hv196_0 := hx196_0; have hv196_1 := hx196_1; have hv196_2 := hx196_2; cases e196; have qi196 : (0 < l0.length) = True := eq_true (by omega); (try rw [show ((0 : Int)).toNat = 0 from rfl] at hx196_0); (try rw [show 0 * 3 = 0 from rfl] at hx196_0); (try rw [Addr.add_zero'] at hx196_0); (try rw [show ((0 : Int)).toNat = 0 from rfl] at hx196_1); (try rw [show 0 * 3 = 0 from rfl] at hx196_1); (try rw [Addr.add_zero'] at hx196_1); (try rw [show ((0 : Int)).toNat = 0 from rfl] at hx196_2); (try rw [show 0 * 3 = 0 from rfl] at hx196_2); (try rw [Addr.add_zero'] at hx196_2); replace hx196_0 := (HB.out.cell (World.block_lt_of_cell? w _ hx196_0)).trans hx196_0; replace hx196_1 := (HB.out.cell (World.block_lt_of_cell? w _ hx196_1)).trans hx196_1; replace hx196_2 := (HB.out.cell (World.block_lt_of_cell? w _ hx196_2)).trans hx196_2; have HR196_0 := aM hi196_0; have HC196_0 := aM hl196_0; clear hi196_0 hl196_0; have HR196_1 := aM hi196_1; have HC196_1 := aM hl196_1; clear hi196_1 hl196_1; have HR196_2 := aM hi196_2; have HC196_2 := aM hl196_2; clear hi196_2 hl196_2; replace p196 := eq_true p196; replace q196 := eq_true q196; have p197 : 0 ≤ (a1 : Int) := oD (by first | (with_reducible assumption) | assumption); have q197 : a1 < (((rd_T96 l0 0).f0).length : Int) := oD (by first | (with_reducible assumption) | assumption); obtain ⟨ad197, e197, hx197_0, hx197_1, hx197_2⟩ := at_T77 HR196_0.out a1 p197 q197; cases e197; replace hx197_0 := (HB.out.cell (World.block_lt_of_cell? w _ hx197_0)).trans hx197_0; replace hx197_1 := (HB.out.cell (World.block_lt_of_cell? w _ hx197_1)).trans hx197_1; replace hx197_2 := (HB.out.cell (World.block_lt_of_cell? w _ hx197_2)).trans hx197_2; replace p197 := eq_true p197; replace q197 := eq_true q197) | ((with_reducible refine gate_dst (N := 7) rfl ?_); refine box_event ?hg (N := 7) ?hd (cs := #[.int .i64 0, .int .i64 0, .int .i64 0]) (t := 77) ?hr ?_; (case hd => rfl); (case hg => rfl); (case hr => first | (go_simp; done) | (go_simp; rfl)); intro gb198 hg w53 hbox hb; have n0_ := aM (blk_below (g := gb195) (o := .cells #[.slice none 0 0, .slice none 0 0] 102 (0, 0)) (by (with_reducible repeat (first | refine kN ?_ _ | refine kD ?_ | refine kA ?_ _)); exact BK195.out) hb); have n1_ := aM (bS (by repeat (first | (with_reducible first | exact HB.out | apply bA | apply pN | apply bD | refine below_set ?_ GE195.out) | exact HB.out)) hb); have n2_ := aM (hbox); have n3_ := aM ((by rw [hg]; exact (below_size (by repeat (first | (with_reducible first | exact HB.out | apply bA | apply pN | apply bD | refine below_set ?_ GE195.out) | exact HB.out))) : w.heap.size ≤ gb198)); have n4_ := aM ((by rw [hg]; exact (below_size (by repeat (first | (with_reducible first | exact HB.out | apply bA | apply pN | apply bD | refine below_set ?_ GE195.out) | exact HB.out))) : w.heap.size ≤ gb198)); have n5_ := aM ((by rw [hg]; exact Nat.ne_of_lt (blk_lt (g := gb195) (o := .cells #[.slice none 0 0, .slice none 0 0] 102 (0, 0)) (by (with_reducible repeat (first | refine kN ?_ _ | refine kD ?_ | refine kA ?_ _)); exact BK195.out)) : gb195 ≠ gb198)); have n6_ := aM ((by rw [hg]; exact Nat.ne_of_gt (blk_lt (g := gb195) (o := .cells #[.slice none 0 0, .slice none 0 0] 102 (0, 0)) (by (with_reducible repeat (first | refine kN ?_ _ | refine kD ?_ | refine kA ?_ _)); exact BK195.out)) : gb198 ≠ gb195)); clear BK195 HB; have BK195 := n0_; have HB := n1_; have BK198 := n2_; have GW198 := n3_; have GE198 := n4_; have NB195_198 := n5_; have NB198_195 := n6_; clear n0_ n1_ n2_ n3_ n4_ n5_ n6_ hb hbox hg; have hnb54 := NB198_195.out; have hnc54 := NB195_198.out; have hcz55_0 : w53.cell? ⟨gb198, 0, none⟩ = some (.int .i64 0) := (blk_cell BK198.out 0).trans rfl; have hcz55_1 : w53.cell? ⟨gb198, 1, none⟩ = some (.int .i64 0) := (blk_cell BK198.out 1).trans rfl; have hcz55_2 : w53.cell? ⟨gb198, 2, none⟩ = some (.int .i64 0) := (blk_cell BK198.out 2).trans rfl; have hfz55_0 := blk_frozen BK198.out 0; have hfz55_1 := blk_frozen BK198.out 1; have hfz55_2 := blk_frozen BK198.out 2))
      have n0_ : Aside0 ((((w53.setCell ⟨gb198, 0, none⟩ (.int .i64 ((rd_T77 ((rd_T96 l0 0).f0) a1).f0))).setCell ⟨gb198, 1, none⟩ (.int .i64 ((rd_T77 ((rd_T96 l0 0).f0) a1).f1))).setCell ⟨gb198, 2, none⟩ (.int .i64 ((rd_T77 ((rd_T96 l0 0).f0) a1).f2))).heap[gb195]? = some (.cells #[.slice none 0 0, .slice none 0 0] 102 (0, 0))) := ⟨by (with_reducible repeat (first | refine kN ?_ _ | refine kD ?_ | refine kA ?_ _)); refine blk_far ?_ NB195_198.out _; (with_reducible repeat (first | refine kN ?_ _ | refine kD ?_ | refine kA ?_ _)); refine blk_far ?_ NB195_198.out _; (with_reducible repeat (first | refine kN ?_ _ | refine kD ?_ | refine kA ?_ _)); refine blk_far ?_ NB195_198.out _; (with_reducible repeat (first | refine kN ?_ _ | refine kD ?_ | refine kA ?_ _)); exact BK195.out⟩
      have n1_ : Aside0 ((((w53.setCell ⟨gb198, 0, none⟩ (.int .i64 ((rd_T77 ((rd_T96 l0 0).f0) a1).f0))).setCell ⟨gb198, 1, none⟩ (.int .i64 ((rd_T77 ((rd_T96 l0 0).f0) a1).f1))).setCell ⟨gb198, 2, none⟩ (.int .i64 ((rd_T77 ((rd_T96 l0 0).f0) a1).f2))).heap[gb198]? = some (.cells #[.int .i64 ((rd_T77 ((rd_T96 l0 0).f0) a1).f0), .int .i64 ((rd_T77 ((rd_T96 l0 0).f0) a1).f1), .int .i64 ((rd_T77 ((rd_T96 l0 0).f0) a1).f2)] 77 (0, 0))) := ⟨by (with_reducible repeat (first | refine kN ?_ _ | refine kD ?_ | refine kA ?_ _)); refine blk_put (cs := #[.int .i64 ((rd_T77 ((rd_T96 l0 0).f0) a1).f0), .int .i64 ((rd_T77 ((rd_T96 l0 0).f0) a1).f1), .int .i64 0]) ?_ 2 _ rfl; (with_reducible repeat (first | refine kN ?_ _ | refine kD ?_ | refine kA ?_ _)); refine blk_put (cs := #[.int .i64 ((rd_T77 ((rd_T96 l0 0).f0) a1).f0), .int .i64 0, .int .i64 0]) ?_ 1 _ rfl; (with_reducible repeat (first | refine kN ?_ _ | refine kD ?_ | refine kA ?_ _)); refine blk_put (cs := #[.int .i64 0, .int .i64 0, .int .i64 0]) ?_ 0 _ rfl; (with_reducible repeat (first | refine kN ?_ _ | refine kD ?_ | refine kA ?_ _)); exact BK198.out⟩
      have n2_ : Aside0 (Below w.heap.size w (((w53.setCell ⟨gb198, 0, none⟩ (.int .i64 ((rd_T77 ((rd_T96 l0 0).f0) a1).f0))).setCell ⟨gb198, 1, none⟩ (.int .i64 ((rd_T77 ((rd_T96 l0 0).f0) a1).f1))).setCell ⟨gb198, 2, none⟩ (.int .i64 ((rd_T77 ((rd_T96 l0 0).f0) a1).f2)))) := ⟨by repeat (first | (with_reducible first | exact HB.out | apply bA | apply pN | apply bD | refine below_set ?_ GE195.out | refine below_set ?_ GE198.out) | exact HB.out)⟩
      (try clear BK195)
      (try clear BK198)
      (try clear HB)
      generalize (((w53.setCell ⟨gb198, 0, none⟩ (.int .i64 ((rd_T77 ((rd_T96 l0 0).f0) a1).f0))).setCell ⟨gb198, 1, none⟩ (.int .i64 ((rd_T77 ((rd_T96 l0 0).f0) a1).f1))).setCell ⟨gb198, 2, none⟩ (.int .i64 ((rd_T77 ((rd_T96 l0 0).f0) a1).f2))) = w56 at n0_ n1_ n2_ ⊢
      have BK195 := n0_; have BK198 := n1_; have HB := n2_; clear n0_ n1_ n2_; have n0_ := aM (kD BK195.out); have n1_ := aM (kD BK198.out); have n2_ := aM (bD HB.out); clear BK195 BK198 HB; have BK195 := n0_; have BK198 := n1_; have HB := n2_; clear n0_ n1_ n2_
      have p199 : 0 ≤ (0 : Int) := (by omega)
      have q199 : 0 < (l0.length : Int) := oD (by first | (with_reducible assumption) | assumption)
      obtain ⟨ad199, A199_0, c199_0, A199_1, c199_1, A199_2, c199_2, e199, hx199_0, hx199_1, hx199_2, hl199_0, hi199_0, hl199_1, hi199_1, hl199_2, hi199_2⟩ := at_T96 HR0.out 0 p199 q199
      have hw199_2 := hx199_2
      (try rw [show ((0 : Int)).toNat = 0 from rfl] at hw199_2)
      (try rw [show 0 * 3 = 0 from rfl] at hw199_2)
      (try rw [Addr.add_zero'] at hw199_2)
      have hw199_1 := hx199_1
      (try rw [show ((0 : Int)).toNat = 0 from rfl] at hw199_1)
      (try rw [show 0 * 3 = 0 from rfl] at hw199_1)
      (try rw [Addr.add_zero'] at hw199_1)
      have hw199_0 := hx199_0
      (try rw [show ((0 : Int)).toNat = 0 from rfl] at hw199_0)
      (try rw [show 0 * 3 = 0 from rfl] at hw199_0)
      (try rw [Addr.add_zero'] at hw199_0)
      have hv199_0 := hx199_0
      have hv199_1 := hx199_1
      have hv199_2 := hx199_2
      obtain rfl : ad196 = ad199 := (by injection e199)
      have qi199 : (0 < l0.length) = True := eq_true (by omega)
      (try rw [show ((0 : Int)).toNat = 0 from rfl] at hx199_0)
      (try rw [show 0 * 3 = 0 from rfl] at hx199_0)
      (try rw [Addr.add_zero'] at hx199_0)
      (try rw [show ((0 : Int)).toNat = 0 from rfl] at hx199_1)
      (try rw [show 0 * 3 = 0 from rfl] at hx199_1)
      (try rw [Addr.add_zero'] at hx199_1)
      (try rw [show ((0 : Int)).toNat = 0 from rfl] at hx199_2)
      (try rw [show 0 * 3 = 0 from rfl] at hx199_2)
      (try rw [Addr.add_zero'] at hx199_2)
      replace hx199_0 := (HB.out.cell (World.block_lt_of_cell? w _ hx199_0)).trans hx199_0
      replace hx199_1 := (HB.out.cell (World.block_lt_of_cell? w _ hx199_1)).trans hx199_1
      replace hx199_2 := (HB.out.cell (World.block_lt_of_cell? w _ hx199_2)).trans hx199_2
      have HR199_0 := aM hi199_0
      have HC199_0 := aM hl199_0
      clear hi199_0 hl199_0
      have HR199_1 := aM hi199_1
      have HC199_1 := aM hl199_1
      clear hi199_1 hl199_1
      have HR199_2 := aM hi199_2
      have HC199_2 := aM hl199_2
      clear hi199_2 hl199_2
      replace p199 := eq_true p199
      replace q199 := eq_true q199
      have p200 : 0 ≤ (a1 : Int) := oD (by first | (with_reducible assumption) | assumption)
      have q200 : a1 < (((rd_T96 l0 0).f2).length : Int) := oD (by first | (with_reducible assumption) | assumption)
      obtain ⟨ad200, A200_0, c200_0, e200, hx200_0, hl200_0, hi200_0⟩ := at_L3 HR199_2.out a1 p200 q200
      have hw200_0 := hx200_0
      have hv200_0 := hx200_0
      cases e200
      replace hx200_0 := (HB.out.cell (World.block_lt_of_cell? w _ hx200_0)).trans hx200_0
      have HR200_0 := aM hi200_0
      have HC200_0 := aM hl200_0
      clear hi200_0 hl200_0
      replace p200 := eq_true p200
      replace q200 := eq_true q200
      refine start_ (n := 20) (S := fun w' => w'.cell? ⟨gb198, 0, none⟩ = some (.int .i64 ((rd_T77 ((rd_T96 l0 0).f0) a1).f0)) ∧ w'.cell? ⟨gb198, 1, none⟩ = some (.int .i64 ((rd_T77 ((rd_T96 l0 0).f0) a1).f1)) ∧ w'.cell? ⟨gb198, 2, none⟩ = some (.int .i64 ((rd_T77 ((rd_T96 l0 0).f0) a1).f2)) ∧ w'.cell? ad196 = some (.slice A199_0 ((rd_T96 l0 0).f0).length c199_0) ∧ w'.cell? ⟨ad196.block, ad196.off + 1, none⟩ = some (.slice A199_1 ((rd_T96 l0 0).f1).length c199_1) ∧ w'.cell? ⟨ad196.block, ad196.off + 2, none⟩ = some (.slice (some ad200) ((rd_T96 l0 0).f2).length c199_2) ∧ w'.cell? (ad200.add (a1).toNat) = some (.slice A200_0 (rd_L3 ((rd_T96 l0 0).f2) a1).length c200_0)) (ds := []) #[false, false, false, false, false, false, false, false, false, false, false, false, false, false, false, false, false, false, false, false] (by kernel_rfl) rfl rfl ⟨(blk_cell BK198.out 0).trans rfl, (blk_cell BK198.out 1).trans rfl, (blk_cell BK198.out 2).trans rfl, ((HB.out.cell (World.block_lt_of_cell? w _ hw199_0)).trans hw199_0), ((HB.out.cell (World.block_lt_of_cell? w _ hw199_1)).trans hw199_1), ((HB.out.cell (World.block_lt_of_cell? w _ hw199_2)).trans hw199_2), ((HB.out.cell (World.block_lt_of_cell? w _ hw200_0)).trans hw200_0)⟩ (fun hHeld => ?_); refine with_tabW load_line_area.tab2 load_line_area.bits2 (fun HT_ HW_ => ?_)
      generalize w56.drew = w57 at BK195 BK198 HB HR199_0 HR199_1 HR199_2 HR200_0 hx199_0 hx199_1 hx199_2 hx200_0 hHeld ⊢
      refine pure_ (i := 0) (N := some 16) (v := ?_) (a' := ?_) #[true, false, false, false, false, false, false, false, false, false, false, false, false, false, false, false, false, false, false, false] rfl rfl (any_of HT_.out (by kernel_rfl)) (fun _ _ _ h => h) (Or.inl ⟨by rfl, ?_⟩) ?_ ?_
      rotate_left
      ·intro w'
       go_simp
       with_reducible rfl
      rotate_left
      ·simp only [Act.put, sI, sZ, sS, i64_w, i32_w]
       rfl
      refine pure_ (i := 1) (N := some 17) (v := ?_) (a' := ?_) #[true, true, false, false, false, false, false, false, false, false, false, false, false, false, false, false, false, false, false, false] rfl rfl (any_of HT_.out (by kernel_rfl)) (fun _ _ _ h => h) (Or.inl ⟨by rfl, ?_⟩) ?_ ?_
      rotate_left
      ·intro w'
       go_simp
       with_reducible rfl
      rotate_left
      ·simp only [Act.put, sI, sZ, sS, i64_w, i32_w]
       rfl
      refine pure_ (i := 2) (N := some 18) (v := ?_) (a' := ?_) #[true, true, true, false, false, false, false, false, false, false, false, false, false, false, false, false, false, false, false, false] rfl rfl (any_of HT_.out (by kernel_rfl)) (fun _ _ _ h => h) (Or.inl ⟨by rfl, ?_⟩) ?_ ?_
      rotate_left
      ·intro w'
       go_simp
       with_reducible rfl
      rotate_left
      ·simp only [Act.put, sI, sZ, sS, i64_w, i32_w]
       rfl
      refine pure_ (i := 4) (N := some 20) (v := ?_) (a' := ?_) #[true, true, true, false, true, false, false, false, false, false, false, false, false, false, false, false, false, false, false, false] rfl rfl (any_of HT_.out (by kernel_rfl)) (fun _ _ _ h => h) (Or.inl ⟨by rfl, ?_⟩) ?_ ?_
      rotate_left
      ·intro w'
       go_simp
       with_reducible rfl
      rotate_left
      ·simp only [Act.put, sI, sZ, sS, i64_w, i32_w]
       rfl
      refine pure_ (i := 7) (N := some 23) (v := ?_) (a' := ?_) #[true, true, true, false, true, false, false, true, false, false, false, false, false, false, false, false, false, false, false, false] rfl rfl (any_of HT_.out (by kernel_rfl)) (fun _ _ _ h => h) (Or.inl ⟨by rfl, ?_⟩) ?_ ?_
      rotate_left
      ·intro w'
       go_simp
       with_reducible rfl
      rotate_left
      ·simp only [Act.put, sI, sZ, sS, i64_w, i32_w]
       rfl
      refine pure_ (i := 11) (N := some 27) (v := ?_) (a' := ?_) #[true, true, true, false, true, false, false, true, false, false, false, true, false, false, false, false, false, false, false, false] rfl rfl (any_of HT_.out (by kernel_rfl)) (fun _ _ _ h => h) (Or.inl ⟨by rfl, ?_⟩) ?_ ?_
      rotate_left
      ·intro w'
       go_simp
       with_reducible rfl
      rotate_left
      ·simp only [Act.put, sI, sZ, sS, i64_w, i32_w]
       rfl
      refine pure_ (i := 13) (N := some 29) (v := ?_) (a' := ?_) #[true, true, true, false, true, false, false, true, false, false, false, true, false, true, false, false, false, false, false, false] rfl rfl (any_of HT_.out (by kernel_rfl)) (fun _ _ _ h => h) (Or.inl ⟨by rfl, ?_⟩) ?_ ?_
      rotate_left
      ·intro w'
       go_simp
       with_reducible rfl
      rotate_left
      ·simp only [Act.put, sI, sZ, sS, i64_w, i32_w]
       rfl
      refine pure_ (i := 15) (N := some 31) (v := ?_) (a' := ?_) #[true, true, true, false, true, false, false, true, false, false, false, true, false, true, false, true, false, false, false, false] rfl rfl (any_of HT_.out (by kernel_rfl)) (fun _ _ _ h => h) (Or.inl ⟨by rfl, ?_⟩) ?_ ?_
      rotate_left
      ·intro w'
       go_simp
       with_reducible rfl
      rotate_left
      ·simp only [Act.put, sI, sZ, sS, i64_w, i32_w]
       rfl
      refine take_ (i := 3) (N := some 19) (v := ?_) (a' := ?_) #[true, true, true, true, true, false, false, true, false, false, false, true, false, true, false, true, false, false, false, false] rfl rfl (take_ofW HT_.out HW_.out (by kernel_rfl)) (fun _ _ _ h => h) (Or.inl ⟨by rfl, ?_⟩) hHeld ?_ ?_
      rotate_left
      ·rintro w' ⟨s0, s1, s2, s3, s4, s5, s6⟩
       go_simp
       with_reducible rfl
      rotate_left
      ·simp only [Act.put, sI, sZ, sS, i64_w, i32_w]
       rfl
      refine pure_ (i := 5) (N := some 21) (v := ?_) (a' := ?_) #[true, true, true, true, true, true, false, true, false, false, false, true, false, true, false, true, false, false, false, false] rfl rfl (any_of HT_.out (by kernel_rfl)) (fun _ _ _ h => h) (Or.inl ⟨by rfl, ?_⟩) ?_ ?_
      rotate_left
      ·intro w'
       go_simp
       with_reducible rfl
      rotate_left
      ·simp only [Act.put, sI, sZ, sS, i64_w, i32_w]
       rfl
      refine take_ (i := 6) (N := some 22) (v := ?_) (a' := ?_) #[true, true, true, true, true, true, true, true, false, false, false, true, false, true, false, true, false, false, false, false] rfl rfl (take_ofW HT_.out HW_.out (by kernel_rfl)) (fun _ _ _ h => h) (Or.inl ⟨by rfl, ?_⟩) hHeld ?_ ?_
      rotate_left
      ·rintro w' ⟨s0, s1, s2, s3, s4, s5, s6⟩
       go_simp
       with_reducible rfl
      rotate_left
      ·simp only [Act.put, sI, sZ, sS, i64_w, i32_w]
       rfl
      refine take_ (i := 8) (N := some 24) (v := ?_) (a' := ?_) #[true, true, true, true, true, true, true, true, true, false, false, true, false, true, false, true, false, false, false, false] rfl rfl (take_ofW HT_.out HW_.out (by kernel_rfl)) (fun _ _ _ h => h) (Or.inl ⟨by rfl, ?_⟩) hHeld ?_ ?_
      rotate_left
      ·rintro w' ⟨s0, s1, s2, s3, s4, s5, s6⟩
       go_simp
       with_reducible rfl
      rotate_left
      ·simp only [Act.put, sI, sZ, sS, i64_w, i32_w]
       rfl
      refine take_ (i := 12) (N := some 28) (v := ?_) (a' := ?_) #[true, true, true, true, true, true, true, true, true, false, false, true, true, true, false, true, false, false, false, false] rfl rfl (take_ofW HT_.out HW_.out (by kernel_rfl)) (fun _ _ _ h => h) (Or.inl ⟨by rfl, ?_⟩) hHeld ?_ ?_
      rotate_left
      ·rintro w' ⟨s0, s1, s2, s3, s4, s5, s6⟩
       go_simp
       with_reducible rfl
      rotate_left
      ·simp only [Act.put, sI, sZ, sS, i64_w, i32_w]
       rfl
      refine take_ (i := 14) (N := some 30) (v := ?_) (a' := ?_) #[true, true, true, true, true, true, true, true, true, false, false, true, true, true, true, true, false, false, false, false] rfl rfl (take_ofW HT_.out HW_.out (by kernel_rfl)) (fun _ _ _ h => h) (Or.inl ⟨by rfl, ?_⟩) hHeld ?_ ?_
      rotate_left
      ·rintro w' ⟨s0, s1, s2, s3, s4, s5, s6⟩
       go_simp
       with_reducible rfl
      rotate_left
      ·simp only [Act.put, sI, sZ, sS, i64_w, i32_w]
       rfl
      refine join_ (σ := Value × Value × Value) 3 #[true, true, true, true, true, true, true, true, true, true, true, true, true, true, true, true, true, false, false, false] (fun s_ => [(25, s_.1), (26, s_.2.1), (32, s_.2.2)]) (fun s_ w' => (w'.cell? ⟨gb198, 0, none⟩ = some (.int .i64 ((rd_T77 ((rd_T96 l0 0).f0) a1).f0)) ∧ w'.cell? ⟨gb198, 1, none⟩ = some (.int .i64 ((rd_T77 ((rd_T96 l0 0).f0) a1).f1)) ∧ w'.cell? ⟨gb198, 2, none⟩ = some (.int .i64 ((rd_T77 ((rd_T96 l0 0).f0) a1).f2)) ∧ w'.cell? ad196 = some (.slice A199_0 ((rd_T96 l0 0).f0).length c199_0) ∧ w'.cell? ⟨ad196.block, ad196.off + 1, none⟩ = some (.slice A199_1 ((rd_T96 l0 0).f1).length c199_1) ∧ w'.cell? ⟨ad196.block, ad196.off + 2, none⟩ = some (.slice (some ad200) ((rd_T96 l0 0).f2).length c199_2) ∧ w'.cell? (ad200.add (a1).toNat) = some (.slice A200_0 (rd_L3 ((rd_T96 l0 0).f2) a1).length c200_0)) ∧ (Kd.R (Kd.int .u64) 85 w' w.heap.size (fun k_ => some k_ ≠ (s_.2.1 : Value).ownBlock) s_.1 t201) ∧ (Kd.R (Kd.int .u64) 85 w' w.heap.size (fun k_ => some k_ ≠ (s_.1 : Value).ownBlock) s_.2.1 t204) ∧ (Kd.R (Kd.int .i64) 3 w' w.heap.size (fun _ => True) s_.2.2 y207) ∧ (w'.heap[gb195]? = some (.cells #[.slice none 0 0, .slice none 0 0] 102 (0, 0))) ∧ (w'.heap[gb198]? = some (.cells #[.int .i64 ((rd_T77 ((rd_T96 l0 0).f0) a1).f0), .int .i64 ((rd_T77 ((rd_T96 l0 0).f0) a1).f1), .int .i64 ((rd_T77 ((rd_T96 l0 0).f0) a1).f2)] 77 (0, 0))) ∧ (Below w.heap.size w w')) ?_ ?_
      rotate_left
      ·intro hCont
       refine two_ (i := 9) (j := 16) (Ni := some 25) (Nj := some 32) #[true, true, true, true, true, true, true, true, true, true, false, true, true, true, true, true, false, false, false, false] #[true, true, true, true, true, true, true, true, true, false, false, true, true, true, true, true, true, false, false, false] rfl rfl rfl rfl (two_of HT_.out (by kernel_rfl)) (by decide) (by decide) (fun K hK => ?_) (fun K hK => ?_)
       ·skip
        refine goes_ Try.func56 (by kernel_rfl) rfl #[.int .i64 ((rd_T77 ((rd_T96 l0 0).f0) a1).f0)] (by rfl) rfl rfl (by (try simp only [mA, List.map_cons, List.map_nil]); first | done | rfl | (simp only [List.length_drop, List.length_take]; rfl)) ?_
        with_reducible refine (nat_Of.calls ((rd_T77 ((rd_T96 l0 0).f0) a1).f0) t201 _ A8.out).mono ?_
        rintro e w58 ⟨v202, rfl, ho0, hb⟩
        refine ⟨_, rfl, ?_⟩
        have n0_ := aM (Kd.R_lower ho0 (below_size (by repeat (first | (with_reducible first | exact HB.out | apply bA | apply pN | apply bD | refine below_set ?_ GE195.out | refine below_set ?_ GE198.out) | exact HB.out)))); have n1_ := aM (blk_below (g := gb195) (o := .cells #[.slice none 0 0, .slice none 0 0] 102 (0, 0)) (by (with_reducible repeat (first | refine kN ?_ _ | refine kD ?_ | refine kA ?_ _)); exact BK195.out) hb); have n2_ := aM (blk_below (g := gb198) (o := .cells #[.int .i64 ((rd_T77 ((rd_T96 l0 0).f0) a1).f0), .int .i64 ((rd_T77 ((rd_T96 l0 0).f0) a1).f1), .int .i64 ((rd_T77 ((rd_T96 l0 0).f0) a1).f2)] 77 (0, 0)) (by (with_reducible repeat (first | refine kN ?_ _ | refine kD ?_ | refine kA ?_ _)); exact BK198.out) hb); have n3_ := aM (bS (by repeat (first | (with_reducible first | exact HB.out | apply bA | apply pN | apply bD | refine below_set ?_ GE195.out | refine below_set ?_ GE198.out) | exact HB.out)) hb); clear BK195 BK198 HB; have HO203 := n0_; have BK195 := n1_; have BK198 := n2_; have HB := n3_; clear n0_ n1_ n2_ n3_
        (try clear hb)
        (try clear hb2)
        (try clear hk)
        (try clear hi)
        (try clear ho0)
        obtain ⟨Ao59, co59, eo59⟩ := Kd.R_slice HO203.out
        (first | subst eo59 | (injection eo59 with f1_ f2_ f3_; have f4_ := f1_.symm; have f5_ := f3_.symm; clear f1_ f2_ f3_; subst f4_; subst f5_))
        refine hK.out _ _ ⟨(blk_cell BK198.out 0).trans rfl, (blk_cell BK198.out 1).trans rfl, (blk_cell BK198.out 2).trans rfl, ((HB.out.cell (World.block_lt_of_cell? w _ hw199_0)).trans hw199_0), ((HB.out.cell (World.block_lt_of_cell? w _ hw199_1)).trans hw199_1), ((HB.out.cell (World.block_lt_of_cell? w _ hw199_2)).trans hw199_2), ((HB.out.cell (World.block_lt_of_cell? w _ hw200_0)).trans hw200_0)⟩ (fun hHeld => ?_)
        clear hK K
        refine norm_ (a' := ?_) ?_ ?_
        rotate_left
        ·show Act.put _ (some 25) _ = _
         simp only [Act.put, sI, sZ, sS, i64_w, i32_w]
         rfl
        refine two_ (i := 10) (j := 16) (Ni := some 26) (Nj := some 32) #[true, true, true, true, true, true, true, true, true, true, true, true, true, true, true, true, false, false, false, false] #[true, true, true, true, true, true, true, true, true, true, false, true, true, true, true, true, true, false, false, false] rfl rfl rfl rfl (two_of HT_.out (by kernel_rfl)) (by decide) (by decide) (fun K hK => ?_) (fun K hK => ?_)
        ·skip
         refine goes_ Try.func74 (by kernel_rfl) rfl #[.slice A200_0 (rd_L3 ((rd_T96 l0 0).f2) a1).length c200_0, .slice Ao59 t201.length co59] (by rfl) rfl rfl (by (try simp only [mA, List.map_cons, List.map_nil]); first | done | rfl | (simp only [List.length_drop, List.length_take]; rfl)) ?_
         with_reducible refine (nat_Mul.calls k _ _ (rd_L3 ((rd_T96 l0 0).f2) a1) _ _ t201 t204 _ ?side1 ?side2 ?side3 ?side4 A9.out).mono ?_
         (case side1 => repeat (first | exact (Kd.C_below HR200_0.out HB.out) | (with_reducible refine cA ?_ _) | (with_reducible refine cN ?_ _) | (with_reducible refine cD ?_)))
         (case side2 => exact HC200_0.out)
         (case side3 => repeat (first | exact (Kd.R_reads' HO203.out).2.2 | (with_reducible refine cA ?_ _) | (with_reducible refine cN ?_ _) | (with_reducible refine cD ?_)))
         (case side4 => exact (Kd.R_reads' HO203.out).2.1)
         rintro e w60 ⟨v205, rfl, ho0, hb⟩
         refine ⟨_, rfl, ?_⟩
         have n0_ := aM (Kd.R_elder' (by (with_reducible repeat (first | apply rA | apply rN | apply rD)); exact HO203.out) (Kd.R_base ho0) hb); have n1_ := aM (Kd.R_lower (Kd.R_new' ho0 (Kd.R_lt (by (with_reducible repeat (first | apply rA | apply rN | apply rD)); exact HO203.out))) (below_size (by repeat (first | (with_reducible first | exact HB.out | apply bA | apply pN | apply bD | refine below_set ?_ GE195.out | refine below_set ?_ GE198.out) | exact HB.out)))); have n2_ := aM (blk_below (g := gb195) (o := .cells #[.slice none 0 0, .slice none 0 0] 102 (0, 0)) (by (with_reducible repeat (first | refine kN ?_ _ | refine kD ?_ | refine kA ?_ _)); exact BK195.out) hb); have n3_ := aM (blk_below (g := gb198) (o := .cells #[.int .i64 ((rd_T77 ((rd_T96 l0 0).f0) a1).f0), .int .i64 ((rd_T77 ((rd_T96 l0 0).f0) a1).f1), .int .i64 ((rd_T77 ((rd_T96 l0 0).f0) a1).f2)] 77 (0, 0)) (by (with_reducible repeat (first | refine kN ?_ _ | refine kD ?_ | refine kA ?_ _)); exact BK198.out) hb); have n4_ := aM (bS (by repeat (first | (with_reducible first | exact HB.out | apply bA | apply pN | apply bD | refine below_set ?_ GE195.out | refine below_set ?_ GE198.out) | exact HB.out)) hb); clear HO203 BK195 BK198 HB; have HO203 := n0_; have HO206 := n1_; have BK195 := n2_; have BK198 := n3_; have HB := n4_; clear n0_ n1_ n2_ n3_ n4_
         (try clear hb)
         (try clear hb2)
         (try clear hk)
         (try clear hi)
         (try clear ho0)
         refine hK.out _ _ ⟨(blk_cell BK198.out 0).trans rfl, (blk_cell BK198.out 1).trans rfl, (blk_cell BK198.out 2).trans rfl, ((HB.out.cell (World.block_lt_of_cell? w _ hw199_0)).trans hw199_0), ((HB.out.cell (World.block_lt_of_cell? w _ hw199_1)).trans hw199_1), ((HB.out.cell (World.block_lt_of_cell? w _ hw199_2)).trans hw199_2), ((HB.out.cell (World.block_lt_of_cell? w _ hw200_0)).trans hw200_0)⟩ (fun hHeld => ?_)
         clear hK K
         refine norm_ (a' := ?_) ?_ ?_
         rotate_left
         ·show Act.put _ (some 26) _ = _
          simp only [Act.put, sI, sZ, sS, i64_w, i32_w]
          rfl
         refine one_ (i := 16) (N := some 32) #[true, true, true, true, true, true, true, true, true, true, true, true, true, true, true, true, true, false, false, false] rfl rfl (one_of HT_.out (by kernel_rfl)) (by decide) (fun K hK => ?_)
         refine Kd.R_lit_step (Kd.int .i64) _ 3 ?hg (N := 32) ?hd (xs := ([2, (rd_T77 ((rd_T96 l0 0).f0) a1).f0, (rd_T77 ((rd_T96 l0 0).f0) a1).f1, a2] : List Int)) (inner := [.int .i64 2, .int .i64 ((rd_T77 ((rd_T96 l0 0).f0) a1).f0), .int .i64 ((rd_T77 ((rd_T96 l0 0).f0) a1).f1), .int .i64 a2]) (ok := fun _ => True) (okp := fun _ => True) ?hr ?hp (fun _ hk => hk) trivial (Below.refl _ _) (Nat.le_refl _) (by simp) ?_; (case hd => rfl); (case hg => rfl); (case hr => first | (go_simp; done) | (go_simp; rfl)); (case hp => exact (Reps.one (show Kd.M (Kd.int .i64) _ _ _ 2 [.int .i64 2] from rfl) (Reps.one (show Kd.M (Kd.int .i64) _ _ _ ((rd_T77 ((rd_T96 l0 0).f0) a1).f0) [.int .i64 ((rd_T77 ((rd_T96 l0 0).f0) a1).f0)] from rfl) (Reps.one (show Kd.M (Kd.int .i64) _ _ _ ((rd_T77 ((rd_T96 l0 0).f0) a1).f1) [.int .i64 ((rd_T77 ((rd_T96 l0 0).f0) a1).f1)] from rfl) (Reps.one (show Kd.M (Kd.int .i64) _ _ _ a2 [.int .i64 a2] from rfl) (Reps.none _ _))))))
         intro v208 w61 ho62 hb hg_ hnew_
         clear hg_ hnew_
         (first | rw [← Ny207.out] at ho62 | (simp only [Int.reduceToNat] at ho62; rw [← Ny207.out] at ho62))
         have n0_ := aM (Kd.R_below (by (with_reducible repeat (first | apply rA | apply rN | apply rD)); exact HO203.out) hb); have n1_ := aM (Kd.R_below (by (with_reducible repeat (first | apply rA | apply rN | apply rD)); exact HO206.out) hb); have n2_ := aM (Kd.R_lower ho62 (below_size (by repeat (first | (with_reducible first | exact HB.out | apply bA | apply pN | apply bD | refine below_set ?_ GE195.out | refine below_set ?_ GE198.out) | exact HB.out)))); have n3_ := aM (blk_below (g := gb195) (o := .cells #[.slice none 0 0, .slice none 0 0] 102 (0, 0)) (by (with_reducible repeat (first | refine kN ?_ _ | refine kD ?_ | refine kA ?_ _)); exact BK195.out) hb); have n4_ := aM (blk_below (g := gb198) (o := .cells #[.int .i64 ((rd_T77 ((rd_T96 l0 0).f0) a1).f0), .int .i64 ((rd_T77 ((rd_T96 l0 0).f0) a1).f1), .int .i64 ((rd_T77 ((rd_T96 l0 0).f0) a1).f2)] 77 (0, 0)) (by (with_reducible repeat (first | refine kN ?_ _ | refine kD ?_ | refine kA ?_ _)); exact BK198.out) hb); have n5_ := aM (bS (by repeat (first | (with_reducible first | exact HB.out | apply bA | apply pN | apply bD | refine below_set ?_ GE195.out | refine below_set ?_ GE198.out) | exact HB.out)) hb); clear HO203 HO206 BK195 BK198 HB; have HO203 := n0_; have HO206 := n1_; have HO209 := n2_; have BK195 := n3_; have BK198 := n4_; have HB := n5_; clear n0_ n1_ n2_ n3_ n4_ n5_ hb ho62
         refine hK.out _ _ ⟨(blk_cell BK198.out 0).trans rfl, (blk_cell BK198.out 1).trans rfl, (blk_cell BK198.out 2).trans rfl, ((HB.out.cell (World.block_lt_of_cell? w _ hw199_0)).trans hw199_0), ((HB.out.cell (World.block_lt_of_cell? w _ hw199_1)).trans hw199_1), ((HB.out.cell (World.block_lt_of_cell? w _ hw199_2)).trans hw199_2), ((HB.out.cell (World.block_lt_of_cell? w _ hw200_0)).trans hw200_0)⟩ (fun hHeld => ?_)
         clear hK K
         refine norm_ (a' := ?_) ?_ ?_
         rotate_left
         ·show Act.put _ (some 32) _ = _
          simp only [Act.put, sI, sZ, sS, i64_w, i32_w]
          rfl
         exact norm_ (by simp only [putAll, Act.put, sI, sZ, sS]) (hCont (.slice Ao59 t201.length co59, v205, v208) _ ⟨hHeld, (by (with_reducible repeat (first | apply rA | apply rN | apply rD)); exact Kd.R_mono HO203.out (fun _ hk => hk.2)), (by (with_reducible repeat (first | apply rA | apply rN | apply rD)); exact Kd.R_mono HO206.out (fun _ hk => hk.2)), (by (with_reducible repeat (first | apply rA | apply rN | apply rD)); exact HO209.out), (by (with_reducible repeat (first | refine kN ?_ _ | refine kD ?_ | refine kA ?_ _)); exact BK195.out), (by (with_reducible repeat (first | refine kN ?_ _ | refine kD ?_ | refine kA ?_ _)); exact BK198.out), (by repeat (first | (with_reducible first | exact HB.out | apply bA | apply pN | apply bD | refine below_set ?_ GE195.out | refine below_set ?_ GE198.out) | exact HB.out))⟩)
        ·skip
         refine Kd.R_lit_step (Kd.int .i64) _ 3 ?hg (N := 32) ?hd (xs := ([2, (rd_T77 ((rd_T96 l0 0).f0) a1).f0, (rd_T77 ((rd_T96 l0 0).f0) a1).f1, a2] : List Int)) (inner := [.int .i64 2, .int .i64 ((rd_T77 ((rd_T96 l0 0).f0) a1).f0), .int .i64 ((rd_T77 ((rd_T96 l0 0).f0) a1).f1), .int .i64 a2]) (ok := fun _ => True) (okp := fun _ => True) ?hr ?hp (fun _ hk => hk) trivial (Below.refl _ _) (Nat.le_refl _) (by simp) ?_; (case hd => rfl); (case hg => rfl); (case hr => first | (go_simp; done) | (go_simp; rfl)); (case hp => exact (Reps.one (show Kd.M (Kd.int .i64) _ _ _ 2 [.int .i64 2] from rfl) (Reps.one (show Kd.M (Kd.int .i64) _ _ _ ((rd_T77 ((rd_T96 l0 0).f0) a1).f0) [.int .i64 ((rd_T77 ((rd_T96 l0 0).f0) a1).f0)] from rfl) (Reps.one (show Kd.M (Kd.int .i64) _ _ _ ((rd_T77 ((rd_T96 l0 0).f0) a1).f1) [.int .i64 ((rd_T77 ((rd_T96 l0 0).f0) a1).f1)] from rfl) (Reps.one (show Kd.M (Kd.int .i64) _ _ _ a2 [.int .i64 a2] from rfl) (Reps.none _ _))))))
         intro v208 w59 ho60 hb hg_ hnew_
         clear hg_ hnew_
         (first | rw [← Ny207.out] at ho60 | (simp only [Int.reduceToNat] at ho60; rw [← Ny207.out] at ho60))
         have n0_ := aM (Kd.R_below (by (with_reducible repeat (first | apply rA | apply rN | apply rD)); exact HO203.out) hb); have n1_ := aM (Kd.R_lower ho60 (below_size (by repeat (first | (with_reducible first | exact HB.out | apply bA | apply pN | apply bD | refine below_set ?_ GE195.out | refine below_set ?_ GE198.out) | exact HB.out)))); have n2_ := aM (blk_below (g := gb195) (o := .cells #[.slice none 0 0, .slice none 0 0] 102 (0, 0)) (by (with_reducible repeat (first | refine kN ?_ _ | refine kD ?_ | refine kA ?_ _)); exact BK195.out) hb); have n3_ := aM (blk_below (g := gb198) (o := .cells #[.int .i64 ((rd_T77 ((rd_T96 l0 0).f0) a1).f0), .int .i64 ((rd_T77 ((rd_T96 l0 0).f0) a1).f1), .int .i64 ((rd_T77 ((rd_T96 l0 0).f0) a1).f2)] 77 (0, 0)) (by (with_reducible repeat (first | refine kN ?_ _ | refine kD ?_ | refine kA ?_ _)); exact BK198.out) hb); have n4_ := aM (bS (by repeat (first | (with_reducible first | exact HB.out | apply bA | apply pN | apply bD | refine below_set ?_ GE195.out | refine below_set ?_ GE198.out) | exact HB.out)) hb); clear HO203 BK195 BK198 HB; have HO203 := n0_; have HO209 := n1_; have BK195 := n2_; have BK198 := n3_; have HB := n4_; clear n0_ n1_ n2_ n3_ n4_ hb ho60
         obtain ⟨Ao61, co61, eo61⟩ := Kd.R_slice HO203.out
         (first | subst eo61 | (injection eo61 with f1_ f2_ f3_; have f4_ := f1_.symm; have f5_ := f3_.symm; clear f1_ f2_ f3_; subst f4_; subst f5_))
         refine hK.out _ _ ⟨(blk_cell BK198.out 0).trans rfl, (blk_cell BK198.out 1).trans rfl, (blk_cell BK198.out 2).trans rfl, ((HB.out.cell (World.block_lt_of_cell? w _ hw199_0)).trans hw199_0), ((HB.out.cell (World.block_lt_of_cell? w _ hw199_1)).trans hw199_1), ((HB.out.cell (World.block_lt_of_cell? w _ hw199_2)).trans hw199_2), ((HB.out.cell (World.block_lt_of_cell? w _ hw200_0)).trans hw200_0)⟩ (fun hHeld => ?_)
         clear hK K
         refine norm_ (a' := ?_) ?_ ?_
         rotate_left
         ·show Act.put _ (some 32) _ = _
          simp only [Act.put, sI, sZ, sS, i64_w, i32_w]
          rfl
         refine one_ (i := 10) (N := some 26) #[true, true, true, true, true, true, true, true, true, true, true, true, true, true, true, true, true, false, false, false] rfl rfl (one_of HT_.out (by kernel_rfl)) (by decide) (fun K hK => ?_)
         refine goes_ Try.func74 (by kernel_rfl) rfl #[.slice A200_0 (rd_L3 ((rd_T96 l0 0).f2) a1).length c200_0, .slice Ao61 t201.length co61] (by rfl) rfl rfl (by (try simp only [mA, List.map_cons, List.map_nil]); first | done | rfl | (simp only [List.length_drop, List.length_take]; rfl)) ?_
         with_reducible refine (nat_Mul.calls k _ _ (rd_L3 ((rd_T96 l0 0).f2) a1) _ _ t201 t204 _ ?side1 ?side2 ?side3 ?side4 A9.out).mono ?_
         (case side1 => repeat (first | exact (Kd.C_below HR200_0.out HB.out) | (with_reducible refine cA ?_ _) | (with_reducible refine cN ?_ _) | (with_reducible refine cD ?_)))
         (case side2 => exact HC200_0.out)
         (case side3 => repeat (first | exact (Kd.R_reads' HO203.out).2.2 | (with_reducible refine cA ?_ _) | (with_reducible refine cN ?_ _) | (with_reducible refine cD ?_)))
         (case side4 => exact (Kd.R_reads' HO203.out).2.1)
         rintro e w62 ⟨v205, rfl, ho0, hb⟩
         refine ⟨_, rfl, ?_⟩
         have n0_ := aM (Kd.R_elder' (by (with_reducible repeat (first | apply rA | apply rN | apply rD)); exact HO203.out) (Kd.R_base ho0) hb); have n1_ := aM (Kd.R_below (by (with_reducible repeat (first | apply rA | apply rN | apply rD)); exact HO209.out) hb); have n2_ := aM (Kd.R_lower (Kd.R_new' ho0 (Kd.R_lt (by (with_reducible repeat (first | apply rA | apply rN | apply rD)); exact HO203.out))) (below_size (by repeat (first | (with_reducible first | exact HB.out | apply bA | apply pN | apply bD | refine below_set ?_ GE195.out | refine below_set ?_ GE198.out) | exact HB.out)))); have n3_ := aM (blk_below (g := gb195) (o := .cells #[.slice none 0 0, .slice none 0 0] 102 (0, 0)) (by (with_reducible repeat (first | refine kN ?_ _ | refine kD ?_ | refine kA ?_ _)); exact BK195.out) hb); have n4_ := aM (blk_below (g := gb198) (o := .cells #[.int .i64 ((rd_T77 ((rd_T96 l0 0).f0) a1).f0), .int .i64 ((rd_T77 ((rd_T96 l0 0).f0) a1).f1), .int .i64 ((rd_T77 ((rd_T96 l0 0).f0) a1).f2)] 77 (0, 0)) (by (with_reducible repeat (first | refine kN ?_ _ | refine kD ?_ | refine kA ?_ _)); exact BK198.out) hb); have n5_ := aM (bS (by repeat (first | (with_reducible first | exact HB.out | apply bA | apply pN | apply bD | refine below_set ?_ GE195.out | refine below_set ?_ GE198.out) | exact HB.out)) hb); clear HO203 HO209 BK195 BK198 HB; have HO203 := n0_; have HO209 := n1_; have HO206 := n2_; have BK195 := n3_; have BK198 := n4_; have HB := n5_; clear n0_ n1_ n2_ n3_ n4_ n5_
         (try clear hb)
         (try clear hb2)
         (try clear hk)
         (try clear hi)
         (try clear ho0)
         refine hK.out _ _ ⟨(blk_cell BK198.out 0).trans rfl, (blk_cell BK198.out 1).trans rfl, (blk_cell BK198.out 2).trans rfl, ((HB.out.cell (World.block_lt_of_cell? w _ hw199_0)).trans hw199_0), ((HB.out.cell (World.block_lt_of_cell? w _ hw199_1)).trans hw199_1), ((HB.out.cell (World.block_lt_of_cell? w _ hw199_2)).trans hw199_2), ((HB.out.cell (World.block_lt_of_cell? w _ hw200_0)).trans hw200_0)⟩ (fun hHeld => ?_)
         clear hK K
         refine norm_ (a' := ?_) ?_ ?_
         rotate_left
         ·show Act.put _ (some 26) _ = _
          simp only [Act.put, sI, sZ, sS, i64_w, i32_w]
          rfl
         exact norm_ (by simp only [putAll, Act.put, sI, sZ, sS]) (hCont (.slice Ao61 t201.length co61, v205, v208) _ ⟨hHeld, (by (with_reducible repeat (first | apply rA | apply rN | apply rD)); exact Kd.R_mono HO203.out (fun _ hk => hk.2)), (by (with_reducible repeat (first | apply rA | apply rN | apply rD)); exact Kd.R_mono HO206.out (fun _ hk => hk.2)), (by (with_reducible repeat (first | apply rA | apply rN | apply rD)); exact HO209.out), (by (with_reducible repeat (first | refine kN ?_ _ | refine kD ?_ | refine kA ?_ _)); exact BK195.out), (by (with_reducible repeat (first | refine kN ?_ _ | refine kD ?_ | refine kA ?_ _)); exact BK198.out), (by repeat (first | (with_reducible first | exact HB.out | apply bA | apply pN | apply bD | refine below_set ?_ GE195.out | refine below_set ?_ GE198.out) | exact HB.out))⟩)
       ·skip
        refine Kd.R_lit_step (Kd.int .i64) _ 3 ?hg (N := 32) ?hd (xs := ([2, (rd_T77 ((rd_T96 l0 0).f0) a1).f0, (rd_T77 ((rd_T96 l0 0).f0) a1).f1, a2] : List Int)) (inner := [.int .i64 2, .int .i64 ((rd_T77 ((rd_T96 l0 0).f0) a1).f0), .int .i64 ((rd_T77 ((rd_T96 l0 0).f0) a1).f1), .int .i64 a2]) (ok := fun _ => True) (okp := fun _ => True) ?hr ?hp (fun _ hk => hk) trivial (Below.refl _ _) (Nat.le_refl _) (by simp) ?_; (case hd => rfl); (case hg => rfl); (case hr => first | (go_simp; done) | (go_simp; rfl)); (case hp => exact (Reps.one (show Kd.M (Kd.int .i64) _ _ _ 2 [.int .i64 2] from rfl) (Reps.one (show Kd.M (Kd.int .i64) _ _ _ ((rd_T77 ((rd_T96 l0 0).f0) a1).f0) [.int .i64 ((rd_T77 ((rd_T96 l0 0).f0) a1).f0)] from rfl) (Reps.one (show Kd.M (Kd.int .i64) _ _ _ ((rd_T77 ((rd_T96 l0 0).f0) a1).f1) [.int .i64 ((rd_T77 ((rd_T96 l0 0).f0) a1).f1)] from rfl) (Reps.one (show Kd.M (Kd.int .i64) _ _ _ a2 [.int .i64 a2] from rfl) (Reps.none _ _))))))
        intro v208 w58 ho59 hb hg_ hnew_
        clear hg_ hnew_
        (first | rw [← Ny207.out] at ho59 | (simp only [Int.reduceToNat] at ho59; rw [← Ny207.out] at ho59))
        have n0_ := aM (Kd.R_lower ho59 (below_size (by repeat (first | (with_reducible first | exact HB.out | apply bA | apply pN | apply bD | refine below_set ?_ GE195.out | refine below_set ?_ GE198.out) | exact HB.out)))); have n1_ := aM (blk_below (g := gb195) (o := .cells #[.slice none 0 0, .slice none 0 0] 102 (0, 0)) (by (with_reducible repeat (first | refine kN ?_ _ | refine kD ?_ | refine kA ?_ _)); exact BK195.out) hb); have n2_ := aM (blk_below (g := gb198) (o := .cells #[.int .i64 ((rd_T77 ((rd_T96 l0 0).f0) a1).f0), .int .i64 ((rd_T77 ((rd_T96 l0 0).f0) a1).f1), .int .i64 ((rd_T77 ((rd_T96 l0 0).f0) a1).f2)] 77 (0, 0)) (by (with_reducible repeat (first | refine kN ?_ _ | refine kD ?_ | refine kA ?_ _)); exact BK198.out) hb); have n3_ := aM (bS (by repeat (first | (with_reducible first | exact HB.out | apply bA | apply pN | apply bD | refine below_set ?_ GE195.out | refine below_set ?_ GE198.out) | exact HB.out)) hb); clear BK195 BK198 HB; have HO209 := n0_; have BK195 := n1_; have BK198 := n2_; have HB := n3_; clear n0_ n1_ n2_ n3_ hb ho59
        refine hK.out _ _ ⟨(blk_cell BK198.out 0).trans rfl, (blk_cell BK198.out 1).trans rfl, (blk_cell BK198.out 2).trans rfl, ((HB.out.cell (World.block_lt_of_cell? w _ hw199_0)).trans hw199_0), ((HB.out.cell (World.block_lt_of_cell? w _ hw199_1)).trans hw199_1), ((HB.out.cell (World.block_lt_of_cell? w _ hw199_2)).trans hw199_2), ((HB.out.cell (World.block_lt_of_cell? w _ hw200_0)).trans hw200_0)⟩ (fun hHeld => ?_)
        clear hK K
        refine norm_ (a' := ?_) ?_ ?_
        rotate_left
        ·show Act.put _ (some 32) _ = _
         simp only [Act.put, sI, sZ, sS, i64_w, i32_w]
         rfl
        refine one_ (i := 9) (N := some 25) #[true, true, true, true, true, true, true, true, true, true, false, true, true, true, true, true, true, false, false, false] rfl rfl (one_of HT_.out (by kernel_rfl)) (by decide) (fun K hK => ?_)
        refine goes_ Try.func56 (by kernel_rfl) rfl #[.int .i64 ((rd_T77 ((rd_T96 l0 0).f0) a1).f0)] (by rfl) rfl rfl (by (try simp only [mA, List.map_cons, List.map_nil]); first | done | rfl | (simp only [List.length_drop, List.length_take]; rfl)) ?_
        with_reducible refine (nat_Of.calls ((rd_T77 ((rd_T96 l0 0).f0) a1).f0) t201 _ A8.out).mono ?_
        rintro e w60 ⟨v202, rfl, ho0, hb⟩
        refine ⟨_, rfl, ?_⟩
        have n0_ := aM (Kd.R_below (by (with_reducible repeat (first | apply rA | apply rN | apply rD)); exact HO209.out) hb); have n1_ := aM (Kd.R_lower ho0 (below_size (by repeat (first | (with_reducible first | exact HB.out | apply bA | apply pN | apply bD | refine below_set ?_ GE195.out | refine below_set ?_ GE198.out) | exact HB.out)))); have n2_ := aM (blk_below (g := gb195) (o := .cells #[.slice none 0 0, .slice none 0 0] 102 (0, 0)) (by (with_reducible repeat (first | refine kN ?_ _ | refine kD ?_ | refine kA ?_ _)); exact BK195.out) hb); have n3_ := aM (blk_below (g := gb198) (o := .cells #[.int .i64 ((rd_T77 ((rd_T96 l0 0).f0) a1).f0), .int .i64 ((rd_T77 ((rd_T96 l0 0).f0) a1).f1), .int .i64 ((rd_T77 ((rd_T96 l0 0).f0) a1).f2)] 77 (0, 0)) (by (with_reducible repeat (first | refine kN ?_ _ | refine kD ?_ | refine kA ?_ _)); exact BK198.out) hb); have n4_ := aM (bS (by repeat (first | (with_reducible first | exact HB.out | apply bA | apply pN | apply bD | refine below_set ?_ GE195.out | refine below_set ?_ GE198.out) | exact HB.out)) hb); clear HO209 BK195 BK198 HB; have HO209 := n0_; have HO203 := n1_; have BK195 := n2_; have BK198 := n3_; have HB := n4_; clear n0_ n1_ n2_ n3_ n4_
        (try clear hb)
        (try clear hb2)
        (try clear hk)
        (try clear hi)
        (try clear ho0)
        obtain ⟨Ao61, co61, eo61⟩ := Kd.R_slice HO203.out
        (first | subst eo61 | (injection eo61 with f1_ f2_ f3_; have f4_ := f1_.symm; have f5_ := f3_.symm; clear f1_ f2_ f3_; subst f4_; subst f5_))
        refine hK.out _ _ ⟨(blk_cell BK198.out 0).trans rfl, (blk_cell BK198.out 1).trans rfl, (blk_cell BK198.out 2).trans rfl, ((HB.out.cell (World.block_lt_of_cell? w _ hw199_0)).trans hw199_0), ((HB.out.cell (World.block_lt_of_cell? w _ hw199_1)).trans hw199_1), ((HB.out.cell (World.block_lt_of_cell? w _ hw199_2)).trans hw199_2), ((HB.out.cell (World.block_lt_of_cell? w _ hw200_0)).trans hw200_0)⟩ (fun hHeld => ?_)
        clear hK K
        refine norm_ (a' := ?_) ?_ ?_
        rotate_left
        ·show Act.put _ (some 25) _ = _
         simp only [Act.put, sI, sZ, sS, i64_w, i32_w]
         rfl
        refine one_ (i := 10) (N := some 26) #[true, true, true, true, true, true, true, true, true, true, true, true, true, true, true, true, true, false, false, false] rfl rfl (one_of HT_.out (by kernel_rfl)) (by decide) (fun K hK => ?_)
        refine goes_ Try.func74 (by kernel_rfl) rfl #[.slice A200_0 (rd_L3 ((rd_T96 l0 0).f2) a1).length c200_0, .slice Ao61 t201.length co61] (by rfl) rfl rfl (by (try simp only [mA, List.map_cons, List.map_nil]); first | done | rfl | (simp only [List.length_drop, List.length_take]; rfl)) ?_
        with_reducible refine (nat_Mul.calls k _ _ (rd_L3 ((rd_T96 l0 0).f2) a1) _ _ t201 t204 _ ?side1 ?side2 ?side3 ?side4 A9.out).mono ?_
        (case side1 => repeat (first | exact (Kd.C_below HR200_0.out HB.out) | (with_reducible refine cA ?_ _) | (with_reducible refine cN ?_ _) | (with_reducible refine cD ?_)))
        (case side2 => exact HC200_0.out)
        (case side3 => repeat (first | exact (Kd.R_reads' HO203.out).2.2 | (with_reducible refine cA ?_ _) | (with_reducible refine cN ?_ _) | (with_reducible refine cD ?_)))
        (case side4 => exact (Kd.R_reads' HO203.out).2.1)
        rintro e w62 ⟨v205, rfl, ho0, hb⟩
        refine ⟨_, rfl, ?_⟩
        have n0_ := aM (Kd.R_below (by (with_reducible repeat (first | apply rA | apply rN | apply rD)); exact HO209.out) hb); have n1_ := aM (Kd.R_elder' (by (with_reducible repeat (first | apply rA | apply rN | apply rD)); exact HO203.out) (Kd.R_base ho0) hb); have n2_ := aM (Kd.R_lower (Kd.R_new' ho0 (Kd.R_lt (by (with_reducible repeat (first | apply rA | apply rN | apply rD)); exact HO203.out))) (below_size (by repeat (first | (with_reducible first | exact HB.out | apply bA | apply pN | apply bD | refine below_set ?_ GE195.out | refine below_set ?_ GE198.out) | exact HB.out)))); have n3_ := aM (blk_below (g := gb195) (o := .cells #[.slice none 0 0, .slice none 0 0] 102 (0, 0)) (by (with_reducible repeat (first | refine kN ?_ _ | refine kD ?_ | refine kA ?_ _)); exact BK195.out) hb); have n4_ := aM (blk_below (g := gb198) (o := .cells #[.int .i64 ((rd_T77 ((rd_T96 l0 0).f0) a1).f0), .int .i64 ((rd_T77 ((rd_T96 l0 0).f0) a1).f1), .int .i64 ((rd_T77 ((rd_T96 l0 0).f0) a1).f2)] 77 (0, 0)) (by (with_reducible repeat (first | refine kN ?_ _ | refine kD ?_ | refine kA ?_ _)); exact BK198.out) hb); have n5_ := aM (bS (by repeat (first | (with_reducible first | exact HB.out | apply bA | apply pN | apply bD | refine below_set ?_ GE195.out | refine below_set ?_ GE198.out) | exact HB.out)) hb); clear HO209 HO203 BK195 BK198 HB; have HO209 := n0_; have HO203 := n1_; have HO206 := n2_; have BK195 := n3_; have BK198 := n4_; have HB := n5_; clear n0_ n1_ n2_ n3_ n4_ n5_
        (try clear hb)
        (try clear hb2)
        (try clear hk)
        (try clear hi)
        (try clear ho0)
        refine hK.out _ _ ⟨(blk_cell BK198.out 0).trans rfl, (blk_cell BK198.out 1).trans rfl, (blk_cell BK198.out 2).trans rfl, ((HB.out.cell (World.block_lt_of_cell? w _ hw199_0)).trans hw199_0), ((HB.out.cell (World.block_lt_of_cell? w _ hw199_1)).trans hw199_1), ((HB.out.cell (World.block_lt_of_cell? w _ hw199_2)).trans hw199_2), ((HB.out.cell (World.block_lt_of_cell? w _ hw200_0)).trans hw200_0)⟩ (fun hHeld => ?_)
        clear hK K
        refine norm_ (a' := ?_) ?_ ?_
        rotate_left
        ·show Act.put _ (some 26) _ = _
         simp only [Act.put, sI, sZ, sS, i64_w, i32_w]
         rfl
        exact norm_ (by simp only [putAll, Act.put, sI, sZ, sS]) (hCont (.slice Ao61 t201.length co61, v205, v208) _ ⟨hHeld, (by (with_reducible repeat (first | apply rA | apply rN | apply rD)); exact Kd.R_mono HO203.out (fun _ hk => hk.2)), (by (with_reducible repeat (first | apply rA | apply rN | apply rD)); exact Kd.R_mono HO206.out (fun _ hk => hk.2)), (by (with_reducible repeat (first | apply rA | apply rN | apply rD)); exact HO209.out), (by (with_reducible repeat (first | refine kN ?_ _ | refine kD ?_ | refine kA ?_ _)); exact BK195.out), (by (with_reducible repeat (first | refine kN ?_ _ | refine kD ?_ | refine kA ?_ _)); exact BK198.out), (by repeat (first | (with_reducible first | exact HB.out | apply bA | apply pN | apply bD | refine below_set ?_ GE195.out | refine below_set ?_ GE198.out) | exact HB.out))⟩)
      rintro ⟨v202, v205, v208⟩ w63 ⟨hS_, h0_, h1_, h2_, h3_, h4_, h5_⟩
      have n0_ : Aside0 (Kd.R (Kd.int .u64) 85 w63 w.heap.size (fun k_ => some k_ ≠ (v205 : Value).ownBlock) v202 t201) := ⟨h0_⟩
      have n1_ : Aside0 (Kd.R (Kd.int .u64) 85 w63 w.heap.size (fun k_ => some k_ ≠ (v202 : Value).ownBlock) v205 t204) := ⟨h1_⟩
      have n2_ : Aside0 (Kd.R (Kd.int .i64) 3 w63 w.heap.size (fun _ => True) v208 y207) := ⟨h2_⟩
      have n3_ : Aside0 (w63.heap[gb195]? = some (.cells #[.slice none 0 0, .slice none 0 0] 102 (0, 0))) := ⟨h3_⟩
      have n4_ : Aside0 (w63.heap[gb198]? = some (.cells #[.int .i64 ((rd_T77 ((rd_T96 l0 0).f0) a1).f0), .int .i64 ((rd_T77 ((rd_T96 l0 0).f0) a1).f1), .int .i64 ((rd_T77 ((rd_T96 l0 0).f0) a1).f2)] 77 (0, 0))) := ⟨h4_⟩
      have n5_ : Aside0 (Below w.heap.size w w63) := ⟨h5_⟩
      clear BK195 BK198 HB h0_ h1_ h2_ h3_ h4_ h5_; have HO203 := n0_; have HO206 := n1_; have HO209 := n2_; have BK195 := n3_; have BK198 := n4_; have HB := n5_; clear n0_ n1_ n2_ n3_ n4_ n5_
      have hHeld : w63.cell? ⟨gb198, 0, none⟩ = some (.int .i64 ((rd_T77 ((rd_T96 l0 0).f0) a1).f0)) ∧ w63.cell? ⟨gb198, 1, none⟩ = some (.int .i64 ((rd_T77 ((rd_T96 l0 0).f0) a1).f1)) ∧ w63.cell? ⟨gb198, 2, none⟩ = some (.int .i64 ((rd_T77 ((rd_T96 l0 0).f0) a1).f2)) ∧ w63.cell? ad196 = some (.slice A199_0 ((rd_T96 l0 0).f0).length c199_0) ∧ w63.cell? ⟨ad196.block, ad196.off + 1, none⟩ = some (.slice A199_1 ((rd_T96 l0 0).f1).length c199_1) ∧ w63.cell? ⟨ad196.block, ad196.off + 2, none⟩ = some (.slice (some ad200) ((rd_T96 l0 0).f2).length c199_2) ∧ w63.cell? (ad200.add (a1).toNat) = some (.slice A200_0 (rd_L3 ((rd_T96 l0 0).f2) a1).length c200_0) := hS_
      obtain ⟨Ao64, co64, eo64⟩ := Kd.R_slice HO209.out
      (first | subst eo64 | (injection eo64 with f1_ f2_ f3_; have f4_ := f1_.symm; have f5_ := f3_.symm; clear f1_ f2_ f3_; subst f4_; subst f5_))
      refine norm_ (a' := ?_) ?_ ?_
      rotate_left
      ·simp only [putAll, Act.put, sI, sZ, sS]
       rfl
      refine one_ (i := 17) (N := some 33) #[true, true, true, true, true, true, true, true, true, true, true, true, true, true, true, true, true, true, false, false] rfl rfl (one_of HT_.out (by kernel_rfl)) (by decide) (fun K hK => ?_)
      refine goes_ Try.func50 (by kernel_rfl) rfl #[.slice Ao64 y207.length co64] (by rfl) rfl rfl (by (try simp only [mA, List.map_cons, List.map_nil]); first | done | rfl | (simp only [List.length_drop, List.length_take]; rfl)) ?_
      with_reducible refine (load_product.calls k _ _ y207 t210 _ ?side1 ?side2 A10.out).mono ?_
      (case side1 => repeat (first | exact (Kd.R_reads' HO209.out).2.2 | (with_reducible refine cA ?_ _) | (with_reducible refine cN ?_ _) | (with_reducible refine cD ?_)))
      (case side2 => exact (Kd.R_reads' HO209.out).2.1)
      rintro e w65 ⟨v211, rfl, ho0, hb⟩
      refine ⟨_, rfl, ?_⟩
      have n0_ := aM (Kd.R_elder' (by (with_reducible repeat (first | apply rA | apply rN | apply rD)); exact HO203.out) (Kd.R_base ho0) hb); have n1_ := aM (Kd.R_elder' (by (with_reducible repeat (first | apply rA | apply rN | apply rD)); exact HO206.out) (Kd.R_base ho0) hb); have n2_ := aM (Kd.R_below (by (with_reducible repeat (first | apply rA | apply rN | apply rD)); exact HO209.out) hb); have n3_ := aM (Kd.R_lower (Kd.R_new' (Kd.R_new' ho0 (Kd.R_lt (by (with_reducible repeat (first | apply rA | apply rN | apply rD)); exact HO203.out))) (Kd.R_lt (by (with_reducible repeat (first | apply rA | apply rN | apply rD)); exact HO206.out))) (below_size (by repeat (first | (with_reducible first | exact HB.out | apply bA | apply pN | apply bD | refine below_set ?_ GE195.out | refine below_set ?_ GE198.out) | exact HB.out)))); have n4_ := aM (blk_below (g := gb195) (o := .cells #[.slice none 0 0, .slice none 0 0] 102 (0, 0)) (by (with_reducible repeat (first | refine kN ?_ _ | refine kD ?_ | refine kA ?_ _)); exact BK195.out) hb); have n5_ := aM (blk_below (g := gb198) (o := .cells #[.int .i64 ((rd_T77 ((rd_T96 l0 0).f0) a1).f0), .int .i64 ((rd_T77 ((rd_T96 l0 0).f0) a1).f1), .int .i64 ((rd_T77 ((rd_T96 l0 0).f0) a1).f2)] 77 (0, 0)) (by (with_reducible repeat (first | refine kN ?_ _ | refine kD ?_ | refine kA ?_ _)); exact BK198.out) hb); have n6_ := aM (bS (by repeat (first | (with_reducible first | exact HB.out | apply bA | apply pN | apply bD | refine below_set ?_ GE195.out | refine below_set ?_ GE198.out) | exact HB.out)) hb); clear HO203 HO206 HO209 BK195 BK198 HB; have HO203 := n0_; have HO206 := n1_; have HO209 := n2_; have HO212 := n3_; have BK195 := n4_; have BK198 := n5_; have HB := n6_; clear n0_ n1_ n2_ n3_ n4_ n5_ n6_
      (try clear hb)
      (try clear hb2)
      (try clear hk)
      (try clear hi)
      (try clear ho0)
      obtain ⟨Ao66, co66, eo66⟩ := Kd.R_slice HO206.out
      (first | subst eo66 | (injection eo66 with f1_ f2_ f3_; have f4_ := f1_.symm; have f5_ := f3_.symm; clear f1_ f2_ f3_; subst f4_; subst f5_))
      obtain ⟨Ao67, co67, eo67⟩ := Kd.R_slice HO212.out
      (first | subst eo67 | (injection eo67 with f1_ f2_ f3_; have f4_ := f1_.symm; have f5_ := f3_.symm; clear f1_ f2_ f3_; subst f4_; subst f5_))
      refine hK.out _ _ ⟨(blk_cell BK198.out 0).trans rfl, (blk_cell BK198.out 1).trans rfl, (blk_cell BK198.out 2).trans rfl, ((HB.out.cell (World.block_lt_of_cell? w _ hw199_0)).trans hw199_0), ((HB.out.cell (World.block_lt_of_cell? w _ hw199_1)).trans hw199_1), ((HB.out.cell (World.block_lt_of_cell? w _ hw199_2)).trans hw199_2), ((HB.out.cell (World.block_lt_of_cell? w _ hw200_0)).trans hw200_0)⟩ (fun hHeld => ?_)
      clear hK K
      refine norm_ (a' := ?_) ?_ ?_
      rotate_left
      ·show Act.put _ (some 33) _ = _
       simp only [Act.put, sI, sZ, sS, i64_w, i32_w]
       rfl
      refine one_ (i := 18) (N := some 34) #[true, true, true, true, true, true, true, true, true, true, true, true, true, true, true, true, true, true, true, false] rfl rfl (one_of HT_.out (by kernel_rfl)) (by decide) (fun K hK => ?_)
      refine goes_ Try.func49 (by kernel_rfl) rfl #[.slice Ao66 t204.length co66, .slice Ao67 t210.length co67] (by rfl) rfl rfl (by (try simp only [mA, List.map_cons, List.map_nil]); first | done | rfl | (simp only [List.length_drop, List.length_take]; rfl)) ?_
      with_reducible refine (nat_Add.calls k _ _ t204 _ _ t210 t213 _ ?side1 ?side2 ?side3 ?side4 A11.out).mono ?_
      (case side1 => repeat (first | exact (Kd.R_reads' HO206.out).2.2 | (with_reducible refine cA ?_ _) | (with_reducible refine cN ?_ _) | (with_reducible refine cD ?_)))
      (case side2 => exact (Kd.R_reads' HO206.out).2.1)
      (case side3 => repeat (first | exact (Kd.R_reads' HO212.out).2.2 | (with_reducible refine cA ?_ _) | (with_reducible refine cN ?_ _) | (with_reducible refine cD ?_)))
      (case side4 => exact (Kd.R_reads' HO212.out).2.1)
      rintro e w68 ⟨v214, rfl, ho0, hb⟩
      refine ⟨_, rfl, ?_⟩
      have n0_ := aM (Kd.R_elder' (by (with_reducible repeat (first | apply rA | apply rN | apply rD)); exact HO203.out) (Kd.R_base ho0) hb); have n1_ := aM (Kd.R_elder' (by (with_reducible repeat (first | apply rA | apply rN | apply rD)); exact HO206.out) (Kd.R_base ho0) hb); have n2_ := aM (Kd.R_below (by (with_reducible repeat (first | apply rA | apply rN | apply rD)); exact HO209.out) hb); have n3_ := aM (Kd.R_elder' (by (with_reducible repeat (first | apply rA | apply rN | apply rD)); exact HO212.out) (Kd.R_base ho0) hb); have n4_ := aM (Kd.R_lower (Kd.R_new' (Kd.R_new' (Kd.R_new' ho0 (Kd.R_lt (by (with_reducible repeat (first | apply rA | apply rN | apply rD)); exact HO203.out))) (Kd.R_lt (by (with_reducible repeat (first | apply rA | apply rN | apply rD)); exact HO206.out))) (Kd.R_lt (by (with_reducible repeat (first | apply rA | apply rN | apply rD)); exact HO212.out))) (below_size (by repeat (first | (with_reducible first | exact HB.out | apply bA | apply pN | apply bD | refine below_set ?_ GE195.out | refine below_set ?_ GE198.out) | exact HB.out)))); have n5_ := aM (blk_below (g := gb195) (o := .cells #[.slice none 0 0, .slice none 0 0] 102 (0, 0)) (by (with_reducible repeat (first | refine kN ?_ _ | refine kD ?_ | refine kA ?_ _)); exact BK195.out) hb); have n6_ := aM (blk_below (g := gb198) (o := .cells #[.int .i64 ((rd_T77 ((rd_T96 l0 0).f0) a1).f0), .int .i64 ((rd_T77 ((rd_T96 l0 0).f0) a1).f1), .int .i64 ((rd_T77 ((rd_T96 l0 0).f0) a1).f2)] 77 (0, 0)) (by (with_reducible repeat (first | refine kN ?_ _ | refine kD ?_ | refine kA ?_ _)); exact BK198.out) hb); have n7_ := aM (bS (by repeat (first | (with_reducible first | exact HB.out | apply bA | apply pN | apply bD | refine below_set ?_ GE195.out | refine below_set ?_ GE198.out) | exact HB.out)) hb); clear HO203 HO206 HO209 HO212 BK195 BK198 HB; have HO203 := n0_; have HO206 := n1_; have HO209 := n2_; have HO212 := n3_; have HO215 := n4_; have BK195 := n5_; have BK198 := n6_; have HB := n7_; clear n0_ n1_ n2_ n3_ n4_ n5_ n6_ n7_
      (try clear hb)
      (try clear hb2)
      (try clear hk)
      (try clear hi)
      (try clear ho0)
      refine hK.out _ _ ⟨(blk_cell BK198.out 0).trans rfl, (blk_cell BK198.out 1).trans rfl, (blk_cell BK198.out 2).trans rfl, ((HB.out.cell (World.block_lt_of_cell? w _ hw199_0)).trans hw199_0), ((HB.out.cell (World.block_lt_of_cell? w _ hw199_1)).trans hw199_1), ((HB.out.cell (World.block_lt_of_cell? w _ hw199_2)).trans hw199_2), ((HB.out.cell (World.block_lt_of_cell? w _ hw200_0)).trans hw200_0)⟩ (fun hHeld => ?_)
      clear hK K
      refine norm_ (a' := ?_) ?_ ?_
      rotate_left
      ·show Act.put _ (some 34) _ = _
       simp only [Act.put, sI, sZ, sS, i64_w, i32_w]
       rfl
      refine pure_ (i := 19) (N := some 8) (v := ?_) (a' := ?_) #[true, true, true, true, true, true, true, true, true, true, true, true, true, true, true, true, true, true, true, true] rfl rfl (any_of HT_.out (by kernel_rfl)) (fun _ _ _ h => h) (Or.inl ⟨by rfl, ?_⟩) ?_ ?_
      rotate_left
      ·intro w'
       go_simp
       with_reducible rfl
      rotate_left
      ·simp only [Act.put, sI, sZ, sS, i64_w, i32_w]
       rfl
      refine done_ (done_of HT_.out (by kernel_rfl)) ?_
      have hcz69_0 : w68.cell? ⟨gb198, 0, none⟩ = some (.int .i64 ((rd_T77 ((rd_T96 l0 0).f0) a1).f0)) := (blk_cell BK198.out 0).trans rfl
      have hcz69_1 : w68.cell? ⟨gb198, 1, none⟩ = some (.int .i64 ((rd_T77 ((rd_T96 l0 0).f0) a1).f1)) := (blk_cell BK198.out 1).trans rfl
      have hcz69_2 : w68.cell? ⟨gb198, 2, none⟩ = some (.int .i64 ((rd_T77 ((rd_T96 l0 0).f0) a1).f2)) := (blk_cell BK198.out 2).trans rfl
      have hfz69_0 := blk_frozen BK198.out 0
      have hfz69_1 := blk_frozen BK198.out 1
      have hfz69_2 := blk_frozen BK198.out 2
      try go_wp2_with (first | ((with_reducible refine gate_dst (N := 59) rfl ?_); refine Kd.R_lit (Kd.int .i64) _ 3 ?hg (N := 59) ?hd (xs := ([wrap64 (((rd_T77 ((rd_T96 l0 0).f0) a1).f1) - ((rd_T77 ((rd_T96 l0 0).f0) a1).f2)), a2, a2] : List Int)) (inner := [.int .i64 (wrap64 (((rd_T77 ((rd_T96 l0 0).f0) a1).f1) - ((rd_T77 ((rd_T96 l0 0).f0) a1).f2))), .int .i64 a2, .int .i64 a2]) (ok := fun _ => True) (okp := fun _ => True) ?hr ?hp (fun _ hk => hk) trivial (Below.refl _ _) (Nat.le_refl _) (by simp) ?_; (case hd => rfl); (case hg => rfl); (case hr => first | (go_simp; done) | (go_simp; rfl)); (case hp => exact (Reps.one (show Kd.M (Kd.int .i64) _ _ _ (wrap64 (((rd_T77 ((rd_T96 l0 0).f0) a1).f1) - ((rd_T77 ((rd_T96 l0 0).f0) a1).f2))) [.int .i64 (wrap64 (((rd_T77 ((rd_T96 l0 0).f0) a1).f1) - ((rd_T77 ((rd_T96 l0 0).f0) a1).f2)))] from rfl) (Reps.one (show Kd.M (Kd.int .i64) _ _ _ a2 [.int .i64 a2] from rfl) (Reps.one (show Kd.M (Kd.int .i64) _ _ _ a2 [.int .i64 a2] from rfl) (Reps.none _ _))))); intro v232 w70 ho71 hb hg_ hnew_; clear hg_ hnew_; (first | rw [← Ny231.out] at ho71 | (simp only [Int.reduceToNat] at ho71; rw [← Ny231.out] at ho71)); have n0_ := aM (Kd.R_below (by (with_reducible repeat (first | apply rA | apply rN | apply rD)); exact HO203.out) hb); have n1_ := aM (Kd.R_below (by (with_reducible repeat (first | apply rA | apply rN | apply rD)); exact HO206.out) hb); have n2_ := aM (Kd.R_elder' (by (with_reducible repeat (first | apply rA | apply rN | apply rD)); exact HO209.out) (Kd.R_base ho71) hb); have n3_ := aM (Kd.R_below (by (with_reducible repeat (first | apply rA | apply rN | apply rD)); exact HO212.out) hb); have n4_ := aM (Kd.R_below (by (with_reducible repeat (first | apply rA | apply rN | apply rD)); exact HO215.out) hb); have n5_ := aM (Kd.R_lower (Kd.R_new' ho71 (Kd.R_lt (by (with_reducible repeat (first | apply rA | apply rN | apply rD)); exact HO209.out))) (below_size (by repeat (first | (with_reducible first | exact HB.out | apply bA | apply pN | apply bD | refine below_set ?_ GE195.out | refine below_set ?_ GE198.out) | exact HB.out)))); have n6_ := aM (blk_below (g := gb195) (o := .cells #[.slice none 0 0, .slice none 0 0] 102 (0, 0)) (by (with_reducible repeat (first | refine kN ?_ _ | refine kD ?_ | refine kA ?_ _)); exact BK195.out) hb); have n7_ := aM (blk_below (g := gb198) (o := .cells #[.int .i64 ((rd_T77 ((rd_T96 l0 0).f0) a1).f0), .int .i64 ((rd_T77 ((rd_T96 l0 0).f0) a1).f1), .int .i64 ((rd_T77 ((rd_T96 l0 0).f0) a1).f2)] 77 (0, 0)) (by (with_reducible repeat (first | refine kN ?_ _ | refine kD ?_ | refine kA ?_ _)); exact BK198.out) hb); have n8_ := aM (bS (by repeat (first | (with_reducible first | exact HB.out | apply bA | apply pN | apply bD | refine below_set ?_ GE195.out | refine below_set ?_ GE198.out) | exact HB.out)) hb); clear HO203 HO206 HO209 HO212 HO215 BK195 BK198 HB; have HO203 := n0_; have HO206 := n1_; have HO209 := n2_; have HO212 := n3_; have HO215 := n4_; have HO233 := n5_; have BK195 := n6_; have BK198 := n7_; have HB := n8_; clear n0_ n1_ n2_ n3_ n4_ n5_ n6_ n7_ n8_ hb ho71; obtain ⟨Ao72, co72, eo72⟩ := Kd.R_slice HO233.out; subst eo72) | ((with_reducible refine gC (f := 50) rfl ?_); refine gL (some 60) rfl rfl Try.func50 (by kernel_rfl) rfl #[.slice Ao72 y231.length co72] rfl (by (try simp only [mA, List.map_cons, List.map_nil]); first | done | rfl | (simp only [List.length_drop, List.length_take]; rfl)) ?_; (with_reducible refine (load_product.calls k _ _ y231 t234 _ ?side1 ?side2 A49.out).mono ?_); (case side1 => repeat (first | exact (Kd.R_reads' HO233.out).2.2 | (with_reducible refine cA ?_ _) | (with_reducible refine cN ?_ _) | (with_reducible refine cD ?_))); (case side2 => exact (Kd.R_reads' HO233.out).2.1); rintro e w73 ⟨v235, rfl, ho0, hb⟩; refine ⟨_, rfl, ?_⟩; have n0_ := aM (Kd.R_elder' (by (with_reducible repeat (first | apply rA | apply rN | apply rD)); exact HO203.out) (Kd.R_base ho0) hb); have n1_ := aM (Kd.R_elder' (by (with_reducible repeat (first | apply rA | apply rN | apply rD)); exact HO206.out) (Kd.R_base ho0) hb); have n2_ := aM (Kd.R_below (by (with_reducible repeat (first | apply rA | apply rN | apply rD)); exact HO209.out) hb); have n3_ := aM (Kd.R_elder' (by (with_reducible repeat (first | apply rA | apply rN | apply rD)); exact HO212.out) (Kd.R_base ho0) hb); have n4_ := aM (Kd.R_elder' (by (with_reducible repeat (first | apply rA | apply rN | apply rD)); exact HO215.out) (Kd.R_base ho0) hb); have n5_ := aM (Kd.R_below (by (with_reducible repeat (first | apply rA | apply rN | apply rD)); exact HO233.out) hb); have n6_ := aM (Kd.R_lower (Kd.R_new' (Kd.R_new' (Kd.R_new' (Kd.R_new' ho0 (Kd.R_lt (by (with_reducible repeat (first | apply rA | apply rN | apply rD)); exact HO203.out))) (Kd.R_lt (by (with_reducible repeat (first | apply rA | apply rN | apply rD)); exact HO206.out))) (Kd.R_lt (by (with_reducible repeat (first | apply rA | apply rN | apply rD)); exact HO212.out))) (Kd.R_lt (by (with_reducible repeat (first | apply rA | apply rN | apply rD)); exact HO215.out))) (below_size (by repeat (first | (with_reducible first | exact HB.out | apply bA | apply pN | apply bD | refine below_set ?_ GE195.out | refine below_set ?_ GE198.out) | exact HB.out)))); have n7_ := aM (blk_below (g := gb195) (o := .cells #[.slice none 0 0, .slice none 0 0] 102 (0, 0)) (by (with_reducible repeat (first | refine kN ?_ _ | refine kD ?_ | refine kA ?_ _)); exact BK195.out) hb); have n8_ := aM (blk_below (g := gb198) (o := .cells #[.int .i64 ((rd_T77 ((rd_T96 l0 0).f0) a1).f0), .int .i64 ((rd_T77 ((rd_T96 l0 0).f0) a1).f1), .int .i64 ((rd_T77 ((rd_T96 l0 0).f0) a1).f2)] 77 (0, 0)) (by (with_reducible repeat (first | refine kN ?_ _ | refine kD ?_ | refine kA ?_ _)); exact BK198.out) hb); have n9_ := aM (bS (by repeat (first | (with_reducible first | exact HB.out | apply bA | apply pN | apply bD | refine below_set ?_ GE195.out | refine below_set ?_ GE198.out) | exact HB.out)) hb); clear HO203 HO206 HO209 HO212 HO215 HO233 BK195 BK198 HB; have HO203 := n0_; have HO206 := n1_; have HO209 := n2_; have HO212 := n3_; have HO215 := n4_; have HO233 := n5_; have HO236 := n6_; have BK195 := n7_; have BK198 := n8_; have HB := n9_; clear n0_ n1_ n2_ n3_ n4_ n5_ n6_ n7_ n8_ n9_; (try clear hb); (try clear hb2); (try clear hk); (try clear hi); (try clear ho0); obtain ⟨Ao74, co74, eo74⟩ := Kd.R_slice HO215.out; subst eo74; obtain ⟨Ao75, co75, eo75⟩ := Kd.R_slice HO236.out; subst eo75) | ((with_reducible refine gC (f := 91) rfl ?_); refine gL (some 61) rfl rfl Try.func91 (by kernel_rfl) rfl #[.slice Ao74 t213.length co74, .slice Ao75 t234.length co75] rfl (by (try simp only [mA, List.map_cons, List.map_nil]); first | done | rfl | (simp only [List.length_drop, List.length_take]; rfl)) ?_; (with_reducible refine (nat_Sub.calls k _ _ t213 _ _ t234 t237 _ ?side1 ?side2 ?side3 ?side4 A50.out).mono ?_); (case side1 => repeat (first | exact (Kd.R_reads' HO215.out).2.2 | (with_reducible refine cA ?_ _) | (with_reducible refine cN ?_ _) | (with_reducible refine cD ?_))); (case side2 => exact (Kd.R_reads' HO215.out).2.1); (case side3 => repeat (first | exact (Kd.R_reads' HO236.out).2.2 | (with_reducible refine cA ?_ _) | (with_reducible refine cN ?_ _) | (with_reducible refine cD ?_))); (case side4 => exact (Kd.R_reads' HO236.out).2.1); rintro e w76 ⟨v238, rfl, ho0, hb⟩; refine ⟨_, rfl, ?_⟩; have n0_ := aM (Kd.R_elder' (by (with_reducible repeat (first | apply rA | apply rN | apply rD)); exact HO203.out) (Kd.R_base ho0) hb); have n1_ := aM (Kd.R_elder' (by (with_reducible repeat (first | apply rA | apply rN | apply rD)); exact HO206.out) (Kd.R_base ho0) hb); have n2_ := aM (Kd.R_below (by (with_reducible repeat (first | apply rA | apply rN | apply rD)); exact HO209.out) hb); have n3_ := aM (Kd.R_elder' (by (with_reducible repeat (first | apply rA | apply rN | apply rD)); exact HO212.out) (Kd.R_base ho0) hb); have n4_ := aM (Kd.R_elder' (by (with_reducible repeat (first | apply rA | apply rN | apply rD)); exact HO215.out) (Kd.R_base ho0) hb); have n5_ := aM (Kd.R_below (by (with_reducible repeat (first | apply rA | apply rN | apply rD)); exact HO233.out) hb); have n6_ := aM (Kd.R_elder' (by (with_reducible repeat (first | apply rA | apply rN | apply rD)); exact HO236.out) (Kd.R_base ho0) hb); have n7_ := aM (Kd.R_lower (Kd.R_new' (Kd.R_new' (Kd.R_new' (Kd.R_new' (Kd.R_new' ho0 (Kd.R_lt (by (with_reducible repeat (first | apply rA | apply rN | apply rD)); exact HO203.out))) (Kd.R_lt (by (with_reducible repeat (first | apply rA | apply rN | apply rD)); exact HO206.out))) (Kd.R_lt (by (with_reducible repeat (first | apply rA | apply rN | apply rD)); exact HO212.out))) (Kd.R_lt (by (with_reducible repeat (first | apply rA | apply rN | apply rD)); exact HO215.out))) (Kd.R_lt (by (with_reducible repeat (first | apply rA | apply rN | apply rD)); exact HO236.out))) (below_size (by repeat (first | (with_reducible first | exact HB.out | apply bA | apply pN | apply bD | refine below_set ?_ GE195.out | refine below_set ?_ GE198.out) | exact HB.out)))); have n8_ := aM (blk_below (g := gb195) (o := .cells #[.slice none 0 0, .slice none 0 0] 102 (0, 0)) (by (with_reducible repeat (first | refine kN ?_ _ | refine kD ?_ | refine kA ?_ _)); exact BK195.out) hb); have n9_ := aM (blk_below (g := gb198) (o := .cells #[.int .i64 ((rd_T77 ((rd_T96 l0 0).f0) a1).f0), .int .i64 ((rd_T77 ((rd_T96 l0 0).f0) a1).f1), .int .i64 ((rd_T77 ((rd_T96 l0 0).f0) a1).f2)] 77 (0, 0)) (by (with_reducible repeat (first | refine kN ?_ _ | refine kD ?_ | refine kA ?_ _)); exact BK198.out) hb); have n10_ := aM (bS (by repeat (first | (with_reducible first | exact HB.out | apply bA | apply pN | apply bD | refine below_set ?_ GE195.out | refine below_set ?_ GE198.out) | exact HB.out)) hb); clear HO203 HO206 HO209 HO212 HO215 HO233 HO236 BK195 BK198 HB; have HO203 := n0_; have HO206 := n1_; have HO209 := n2_; have HO212 := n3_; have HO215 := n4_; have HO233 := n5_; have HO236 := n6_; have HO239 := n7_; have BK195 := n8_; have BK198 := n9_; have HB := n10_; clear n0_ n1_ n2_ n3_ n4_ n5_ n6_ n7_ n8_ n9_ n10_; (try clear hb); (try clear hb2); (try clear hk); (try clear hi); (try clear ho0); have hcz77_0 : w76.cell? ⟨gb198, 0, none⟩ = some (.int .i64 ((rd_T77 ((rd_T96 l0 0).f0) a1).f0)) := (blk_cell BK198.out 0).trans rfl; have hcz77_1 : w76.cell? ⟨gb198, 1, none⟩ = some (.int .i64 ((rd_T77 ((rd_T96 l0 0).f0) a1).f1)) := (blk_cell BK198.out 1).trans rfl; have hcz77_2 : w76.cell? ⟨gb198, 2, none⟩ = some (.int .i64 ((rd_T77 ((rd_T96 l0 0).f0) a1).f2)) := (blk_cell BK198.out 2).trans rfl; have hfz77_0 := blk_frozen BK198.out 0; have hfz77_1 := blk_frozen BK198.out 1; have hfz77_2 := blk_frozen BK198.out 2) | ((with_reducible refine gate_dst (N := 65) rfl ?_); refine Kd.R_lit (Kd.int .i64) _ 3 ?hg (N := 65) ?hd (xs := ([2, (rd_T77 ((rd_T96 l0 0).f0) a1).f0, 1000000000] : List Int)) (inner := [.int .i64 2, .int .i64 ((rd_T77 ((rd_T96 l0 0).f0) a1).f0), .int .i64 1000000000]) (ok := fun _ => True) (okp := fun _ => True) ?hr ?hp (fun _ hk => hk) trivial (Below.refl _ _) (Nat.le_refl _) (by simp) ?_; (case hd => rfl); (case hg => rfl); (case hr => first | (go_simp; done) | (go_simp; rfl)); (case hp => exact (Reps.one (show Kd.M (Kd.int .i64) _ _ _ 2 [.int .i64 2] from rfl) (Reps.one (show Kd.M (Kd.int .i64) _ _ _ ((rd_T77 ((rd_T96 l0 0).f0) a1).f0) [.int .i64 ((rd_T77 ((rd_T96 l0 0).f0) a1).f0)] from rfl) (Reps.one (show Kd.M (Kd.int .i64) _ _ _ 1000000000 [.int .i64 1000000000] from rfl) (Reps.none _ _))))); intro v241 w78 ho79 hb hg_ hnew_; clear hg_ hnew_; (first | rw [← Ny240.out] at ho79 | (simp only [Int.reduceToNat] at ho79; rw [← Ny240.out] at ho79)); have n0_ := aM (Kd.R_below (by (with_reducible repeat (first | apply rA | apply rN | apply rD)); exact HO203.out) hb); have n1_ := aM (Kd.R_below (by (with_reducible repeat (first | apply rA | apply rN | apply rD)); exact HO206.out) hb); have n2_ := aM (Kd.R_elder' (by (with_reducible repeat (first | apply rA | apply rN | apply rD)); exact HO209.out) (Kd.R_base ho79) hb); have n3_ := aM (Kd.R_below (by (with_reducible repeat (first | apply rA | apply rN | apply rD)); exact HO212.out) hb); have n4_ := aM (Kd.R_below (by (with_reducible repeat (first | apply rA | apply rN | apply rD)); exact HO215.out) hb); have n5_ := aM (Kd.R_elder' (by (with_reducible repeat (first | apply rA | apply rN | apply rD)); exact HO233.out) (Kd.R_base ho79) hb); have n6_ := aM (Kd.R_below (by (with_reducible repeat (first | apply rA | apply rN | apply rD)); exact HO236.out) hb); have n7_ := aM (Kd.R_below (by (with_reducible repeat (first | apply rA | apply rN | apply rD)); exact HO239.out) hb); have n8_ := aM (Kd.R_lower (Kd.R_new' (Kd.R_new' ho79 (Kd.R_lt (by (with_reducible repeat (first | apply rA | apply rN | apply rD)); exact HO209.out))) (Kd.R_lt (by (with_reducible repeat (first | apply rA | apply rN | apply rD)); exact HO233.out))) (below_size (by repeat (first | (with_reducible first | exact HB.out | apply bA | apply pN | apply bD | refine below_set ?_ GE195.out | refine below_set ?_ GE198.out) | exact HB.out)))); have n9_ := aM (blk_below (g := gb195) (o := .cells #[.slice none 0 0, .slice none 0 0] 102 (0, 0)) (by (with_reducible repeat (first | refine kN ?_ _ | refine kD ?_ | refine kA ?_ _)); exact BK195.out) hb); have n10_ := aM (blk_below (g := gb198) (o := .cells #[.int .i64 ((rd_T77 ((rd_T96 l0 0).f0) a1).f0), .int .i64 ((rd_T77 ((rd_T96 l0 0).f0) a1).f1), .int .i64 ((rd_T77 ((rd_T96 l0 0).f0) a1).f2)] 77 (0, 0)) (by (with_reducible repeat (first | refine kN ?_ _ | refine kD ?_ | refine kA ?_ _)); exact BK198.out) hb); have n11_ := aM (bS (by repeat (first | (with_reducible first | exact HB.out | apply bA | apply pN | apply bD | refine below_set ?_ GE195.out | refine below_set ?_ GE198.out) | exact HB.out)) hb); clear HO203 HO206 HO209 HO212 HO215 HO233 HO236 HO239 BK195 BK198 HB; have HO203 := n0_; have HO206 := n1_; have HO209 := n2_; have HO212 := n3_; have HO215 := n4_; have HO233 := n5_; have HO236 := n6_; have HO239 := n7_; have HO242 := n8_; have BK195 := n9_; have BK198 := n10_; have HB := n11_; clear n0_ n1_ n2_ n3_ n4_ n5_ n6_ n7_ n8_ n9_ n10_ n11_ hb ho79; obtain ⟨Ao80, co80, eo80⟩ := Kd.R_slice HO242.out; subst eo80) | ((with_reducible refine gC (f := 50) rfl ?_); refine gL (some 66) rfl rfl Try.func50 (by kernel_rfl) rfl #[.slice Ao80 y240.length co80] rfl (by (try simp only [mA, List.map_cons, List.map_nil]); first | done | rfl | (simp only [List.length_drop, List.length_take]; rfl)) ?_; (with_reducible refine (load_product.calls k _ _ y240 t243 _ ?side1 ?side2 A51.out).mono ?_); (case side1 => repeat (first | exact (Kd.R_reads' HO242.out).2.2 | (with_reducible refine cA ?_ _) | (with_reducible refine cN ?_ _) | (with_reducible refine cD ?_))); (case side2 => exact (Kd.R_reads' HO242.out).2.1); rintro e w81 ⟨v244, rfl, ho0, hb⟩; refine ⟨_, rfl, ?_⟩; have n0_ := aM (Kd.R_elder' (by (with_reducible repeat (first | apply rA | apply rN | apply rD)); exact HO203.out) (Kd.R_base ho0) hb); have n1_ := aM (Kd.R_elder' (by (with_reducible repeat (first | apply rA | apply rN | apply rD)); exact HO206.out) (Kd.R_base ho0) hb); have n2_ := aM (Kd.R_below (by (with_reducible repeat (first | apply rA | apply rN | apply rD)); exact HO209.out) hb); have n3_ := aM (Kd.R_elder' (by (with_reducible repeat (first | apply rA | apply rN | apply rD)); exact HO212.out) (Kd.R_base ho0) hb); have n4_ := aM (Kd.R_elder' (by (with_reducible repeat (first | apply rA | apply rN | apply rD)); exact HO215.out) (Kd.R_base ho0) hb); have n5_ := aM (Kd.R_below (by (with_reducible repeat (first | apply rA | apply rN | apply rD)); exact HO233.out) hb); have n6_ := aM (Kd.R_elder' (by (with_reducible repeat (first | apply rA | apply rN | apply rD)); exact HO236.out) (Kd.R_base ho0) hb); have n7_ := aM (Kd.R_elder' (by (with_reducible repeat (first | apply rA | apply rN | apply rD)); exact HO239.out) (Kd.R_base ho0) hb); have n8_ := aM (Kd.R_below (by (with_reducible repeat (first | apply rA | apply rN | apply rD)); exact HO242.out) hb); have n9_ := aM (Kd.R_lower (Kd.R_new' (Kd.R_new' (Kd.R_new' (Kd.R_new' (Kd.R_new' (Kd.R_new' ho0 (Kd.R_lt (by (with_reducible repeat (first | apply rA | apply rN | apply rD)); exact HO203.out))) (Kd.R_lt (by (with_reducible repeat (first | apply rA | apply rN | apply rD)); exact HO206.out))) (Kd.R_lt (by (with_reducible repeat (first | apply rA | apply rN | apply rD)); exact HO212.out))) (Kd.R_lt (by (with_reducible repeat (first | apply rA | apply rN | apply rD)); exact HO215.out))) (Kd.R_lt (by (with_reducible repeat (first | apply rA | apply rN | apply rD)); exact HO236.out))) (Kd.R_lt (by (with_reducible repeat (first | apply rA | apply rN | apply rD)); exact HO239.out))) (below_size (by repeat (first | (with_reducible first | exact HB.out | apply bA | apply pN | apply bD | refine below_set ?_ GE195.out | refine below_set ?_ GE198.out) | exact HB.out)))); have n10_ := aM (blk_below (g := gb195) (o := .cells #[.slice none 0 0, .slice none 0 0] 102 (0, 0)) (by (with_reducible repeat (first | refine kN ?_ _ | refine kD ?_ | refine kA ?_ _)); exact BK195.out) hb); have n11_ := aM (blk_below (g := gb198) (o := .cells #[.int .i64 ((rd_T77 ((rd_T96 l0 0).f0) a1).f0), .int .i64 ((rd_T77 ((rd_T96 l0 0).f0) a1).f1), .int .i64 ((rd_T77 ((rd_T96 l0 0).f0) a1).f2)] 77 (0, 0)) (by (with_reducible repeat (first | refine kN ?_ _ | refine kD ?_ | refine kA ?_ _)); exact BK198.out) hb); have n12_ := aM (bS (by repeat (first | (with_reducible first | exact HB.out | apply bA | apply pN | apply bD | refine below_set ?_ GE195.out | refine below_set ?_ GE198.out) | exact HB.out)) hb); clear HO203 HO206 HO209 HO212 HO215 HO233 HO236 HO239 HO242 BK195 BK198 HB; have HO203 := n0_; have HO206 := n1_; have HO209 := n2_; have HO212 := n3_; have HO215 := n4_; have HO233 := n5_; have HO236 := n6_; have HO239 := n7_; have HO242 := n8_; have HO245 := n9_; have BK195 := n10_; have BK198 := n11_; have HB := n12_; clear n0_ n1_ n2_ n3_ n4_ n5_ n6_ n7_ n8_ n9_ n10_ n11_ n12_; (try clear hb); (try clear hb2); (try clear hk); (try clear hi); (try clear ho0); obtain ⟨Ao82, co82, eo82⟩ := Kd.R_slice HO245.out; subst eo82; obtain ⟨Ao83, co83, eo83⟩ := Kd.R_slice HO239.out; subst eo83; have hcz84_0 : w81.cell? ⟨gb195, 0, none⟩ = some (.slice none 0 0) := (blk_cell BK195.out 0).trans rfl; have hcz84_1 : w81.cell? ⟨gb195, 1, none⟩ = some (.slice none 0 0) := (blk_cell BK195.out 1).trans rfl; have hfz84_0 := blk_frozen BK195.out 0; have hfz84_1 := blk_frozen BK195.out 1))
      refine bodyPost_ret (results_cell_row rfl _ _ gb195 102 #[.slice Ao83 t237.length co83, .slice Ao82 t243.length co82] (0, 0) _ rfl (by (with_reducible repeat (first | refine kN ?_ _ | refine kD ?_ | refine kA ?_ _)); refine blk_put (cs := #[.slice Ao83 t237.length co83, .slice none 0 0]) ?_ 1 _ rfl; (with_reducible repeat (first | refine kN ?_ _ | refine kD ?_ | refine kA ?_ _)); refine blk_put (cs := #[.slice none 0 0, .slice none 0 0]) ?_ 0 _ rfl; (with_reducible repeat (first | refine kN ?_ _ | refine kD ?_ | refine kA ?_ _)); exact BK195.out) Try.underlying102 rfl (by kernel_rfl)) rfl ?_
      exact ⟨_, _, by first | rfl | (simp [errW_none, errW_some] <;> rfl) | (simp [*, errW_none, errW_some] <;> rfl), by (with_reducible repeat (first | apply rA | apply rN | apply rD)); exact Kd.R_mono (Kd.R_far (p := ⟨gb195, 1, none⟩) (Kd.R_far (p := ⟨gb195, 0, none⟩) (Kd.R_types HO239.out BK195.out (by decide)) (fun _ hk => hk.2) (.slice Ao83 t237.length co83)) (fun _ hk => hk.2) (.slice Ao82 t243.length co82)) (fun _ hk => hk.1.2), by (with_reducible repeat (first | apply rA | apply rN | apply rD)); exact Kd.R_mono (Kd.R_far (p := ⟨gb195, 1, none⟩) (Kd.R_far (p := ⟨gb195, 0, none⟩) (Kd.R_types HO245.out BK195.out (by decide)) (fun _ hk => hk.2) (.slice Ao83 t237.length co83)) (fun _ hk => hk.2) (.slice Ao82 t243.length co82)) (fun _ hk => hk.1.2), by repeat (first | (with_reducible first | exact HB.out | apply bA | apply pN | apply bD | refine below_set ?_ GE195.out | refine below_set ?_ GE198.out) | exact HB.out)⟩
    ·rw [if_neg c7] at H
     exact absurd H (by simp)
   ·rw [if_neg c6] at H
    exact absurd H (by simp)
  ·rw [if_neg c5] at H
   exact absurd H (by simp)
 ·rw [if_neg c4] at H
  exact absurd H (by simp)
end Go.Proofs.Ytjfldeoddjicoaa.QLoadCountAddsUp
