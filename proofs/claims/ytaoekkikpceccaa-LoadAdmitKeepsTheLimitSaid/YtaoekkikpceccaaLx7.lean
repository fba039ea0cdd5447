/- Lean functions that answer as Go functions of this seat do, each with its proof. Condition: the Lean function answers 'some'. -/
import Derived.Test.YtaoekkikpceccaaLx0
import Derived.Test.YtaoekkikpceccaaLx5
import Derived.Test.YtaoekkikpceccaaLx6
namespace Go.Proofs.Ytaoekkikpceccaa.QLoadAdmitKeepsTheLimit
open Go.RowKit Go.Proofs.YtaoekkikpceccaaW.PrintWords Go.Proofs.YtaoekkikpceccaaW.PrintLast Go.Proofs.YtaoekkikpceccaaW.PrintMore
attribute [local go_sem] max2_int min2_int max_two min_two
set_option linter.unusedVariables false
set_option maxHeartbeats 8000000
set_option maxRecDepth 100000
set_option linter.unusedSimpArgs false
def load_newLine.l0 : Nat → Int → List (S40) → Int → Int → List (S40) → List Int → List (List Int) → Option ((List (S51)))
 | 0, _, _, _, _, _, _, _ => none
 | k + 1, x4, x11, x12, x13, x192000, x192001, x192002 => if x13 < x12 then (if 0 ≤ x13 then (if x13 < (x11.length : Int) then (if x192001.length < 17592186044416 then (if x13 < (x192002.length : Int) then ((load_product.f k (([wrap64 (((rd_T40 x11 x13).f1) + ((rd_T40 x11 x13).f2)), (rd_T40 x11 x13).f0] : List Int))).bind fun t201 => ((nat_Add.f k (rd_L3 x192002 x13) t201).bind fun t204 => (if x192002.length < 5864062014805 then (load_newLine.l0 k (wrap64 (x4 + ((rd_T40 x11 x13).f0))) x11 x12 (wrap64 (x13 + 1)) x192000 (x192001 ++ [x4]) (x192002 ++ [t204])) else (none)))) else (none)) else (none)) else (none)) else (none)) else (some [(⟨x192000, x192001, x192002⟩ : S51)])
def load_newLine.f (k : Nat) (l0 : List (S40)) : Option ((List (S51))) := load_newLine.l0 k 0 l0 (l0.length : Int) 0 l0 ([] : List Int) (([[]] : List (List Int)))
theorem load_newLine.mono_l : ∀ k, (∀ y0 y1 y2 y3 y4 y5 y6, LeO (load_newLine.l0 k y0 y1 y2 y3 y4 y5 y6) (load_newLine.l0 (k + 1) y0 y1 y2 y3 y4 y5 y6))
 | 0 => fun _ _ _ _ _ _ _ r h => by simp [load_newLine.l0] at h
 | k + 1 => by
  have ih0 := load_newLine.mono_l k
  ·intro y0 y1 y2 y3 y4 y5 y6
   unfold load_newLine.l0
   repeat' first
   | (with_reducible exact ih0 _ _ _ _ _ _ _)
   | (with_reducible exact load_product.mono _ _)
   | (with_reducible exact nat_Add.mono _ _ _)
   | (with_reducible exact LeO.refl _)
   | (with_reducible exact LeO.none _)
   | (with_reducible refine LeO.ite ?_ ?_)
   | (with_reducible refine LeO.bind ?_ (fun _ => ?_))
theorem load_newLine.mono : ∀ a0 k, LeO (load_newLine.f k a0) (load_newLine.f (k + 1) a0) := by
 intro a0 k
 have ih0 := load_newLine.mono_l k
 unfold load_newLine.f
 repeat' first
   | (with_reducible exact ih0 _ _ _ _ _ _ _)
   | (with_reducible exact load_product.mono _ _)
   | (with_reducible exact nat_Add.mono _ _ _)
   | (with_reducible exact LeO.refl _)
   | (with_reducible exact LeO.none _)
   | (with_reducible refine LeO.ite ?_ ?_)
   | (with_reducible refine LeO.bind ?_ (fun _ => ?_))
def load_newLine.T8 : Bool × List (List Nat × List Nat) := (true, [([], []), ([], []), ([1], [1]), ([2], [2]), ([3], [3]), ([], []), ([5], [5]), ([6], [6]), ([7], [7]), ([], []), ([8, 9], [8, 9]), ([10], [10]), ([], []), ([12], [12]), ([], []), ([14], [14]), ([13, 15], [13, 15]), ([], []), ([17], [17]), ([16, 18], [16, 18]), ([19], [19]), ([11, 20, 20], [11, 20]), ([21], [21]), ([4, 22, 21], [4, 22]), ([0, 0, 1, 2, 3, 4, 5, 6, 7, 8, 9, 10, 11, 12, 13, 14, 15, 16, 17, 18, 19, 20, 21, 22, 23], [0]), ([24, 0, 1, 2, 3, 4, 5, 6, 7, 8, 9, 10, 11, 12, 13, 14, 15, 16, 17, 18, 19, 20, 21, 22, 23], [24]), ([25, 23, 23, 0, 1, 2, 3, 4, 5, 6, 7, 8, 9, 10, 11, 12, 13, 14, 15, 16, 17, 18, 19, 20, 21, 22, 23], [23, 25])])
def load_newLine.B8 : List Nat := [0, 0, 2, 6, 14, 0, 32, 96, 224, 0, 992, 2016, 0, 4096, 0, 16384, 61440, 0, 131072, 520192, 1044480, 2097120, 4194272, 8388606, 16777215, 33554431, 67108863]
theorem load_newLine.tab8 : rtab .any (opsOf Try.f16 8) = load_newLine.T8 := by kernel_rfl
theorem load_newLine.bits8 : waitsOk load_newLine.T8.2 load_newLine.B8 = true := by kernel_rfl
theorem load_newLine.calls (k : Nat) (P0_ : Nat → Prop) (A0 : Option Addr) (c0 : Nat) (l0 : List (S40)) (r : List (S51)) (w : World) (hs0 : Kd.V k40 40 w w.heap.size (fun k_ => P0_ k_) (.slice A0 l0.length c0) l0) (h : load_newLine.f k l0 = some r) :
  Calls Try.prog 16 #[.slice A0 l0.length c0] w fun e w' => ∃ A0_ : Option Addr, e = .returned (.pointer A0_) ∧ Kd.V k51 51 w' w.heap.size (fun k_ => (P0_ k_ ∨ w.heap.size ≤ k_)) (.slice A0_ r.length r.length) r ∧ Below w.heap.size w w' := by
 have hu51 := Try.underlying51
 have hu40 := Try.underlying40
 have HO0 := aM (show Kd.V k40 40 w w.heap.size (fun k_ => (P0_ k_ ∨ w.heap.size ≤ k_)) (.slice A0 l0.length c0) l0 from Kd.V_mono hs0 (fun k_ hk => .inl hk))
 have HB := aM (Below.refl w.heap.size w)
 have H : (load_newLine.l0 k 0 l0 (l0.length : Int) 0 l0 ([] : List Int) (([[]] : List (List Int)))) = some r := h
 clear h
 obtain ⟨y188, hy188⟩ : ∃ y_ : List (List Int), y_ = (([[]] : List (List Int))) := ⟨_, rfl⟩
 replace H : (load_newLine.l0 k 0 l0 (l0.length : Int) 0 l0 ([] : List Int) y188) = some r := by first | (rw [hy188]; exact H) | exact H
 have Ny188 := aM hy188
 clear hy188; have H' := aM H; clear H
 go_enter Try.func16, Try.ntmps16
 go_wp2_with (first | ((with_reducible refine gate_dst (N := 8) rfl ?_); refine Kd.N_lit (Kd.slice 65 (Kd.int .u64)) _ 53 ?hg (N' := 8) ?hd (xs := ([[]] : List (List Int))) (inner := [.slice none 0 0]) (ok := (fun k_ => (P0_ k_ ∨ w.heap.size ≤ k_))) (okp := (fun k_ => (P0_ k_ ∨ w.heap.size ≤ k_))) ?hr ?hp (fun _ hk => hk) ((show ∀ k_, w.heap.size ≤ k_ → (fun k_ => (P0_ k_ ∨ w.heap.size ≤ k_)) k_ from fun k_ hk => (.inr (Nat.le_trans (bZ (by apply_rules [HB.out, bA, pN, bD])) hk))) _ (Nat.le_refl _)) (Below.refl _ _) (Nat.le_refl _) (by simp) ?_; (case hd => rfl); (case hg => rfl); (case hr => first | (go_simp; done) | (go_simp; rfl)); (case hp => exact (Reps.one (show Kd.FK (Kd.slice 65 (Kd.int .u64)) _ _ [] [.slice none 0 0] from (Kd.FK_slice_mk (Nat.le_refl _) (Kd.F_nil _ _ _))) (Reps.none _ _))); intro v189 w2 ho3 hb hg_ hnew_; clear hg_ hnew_; (first | rw [← Ny188.out] at ho3 | (simp only [Int.reduceToNat] at ho3; rw [← Ny188.out] at ho3)); have n0_ := aM (Kd.V_elder' (by (with_reducible repeat (first | apply Kd.V_alloc | apply Kd.V_drewN | apply Kd.V_drew)); exact HO0.out) (Kd.N_base ho3) hb); have n1_ := aM (Kd.N_lower ho3 (bZ (by apply_rules [HB.out, bA, pN, bD]))); have n2_ := aM (bS (by apply_rules [HB.out, bA, pN, bD]) hb); clear HO0 HB; have HO0 := n0_; have HO190 := n1_; have HB := n2_; clear n0_ n1_ n2_ hb ho3; obtain ⟨Ao4, co4, eo4⟩ := Kd.N_slice HO190.out; subst eo4) | ((with_reducible refine gate_dst (N := 10) rfl ?_); refine box_event ?hg (N := 10) ?hd (cs := #[.slice A0 l0.length c0, .slice none 0 0, .slice Ao4 y188.length co4]) (t := 51) ?hr ?_; (case hd => rfl); (case hg => rfl); (case hr => first | (go_simp; done) | (go_simp; rfl)); intro gb191 hg w5 hbox hb; have n0_ := aM (Kd.V_below (Kd.V_elderB (by (with_reducible repeat (first | apply Kd.V_alloc | apply Kd.V_drewN | apply Kd.V_drew)); exact HO0.out) gb191 (Nat.le_of_eq hg.symm)) hb); have n1_ := aM (Kd.N_below (Kd.N_elderB (by (with_reducible repeat (first | apply Kd.N_alloc | apply Kd.N_drewN | apply Kd.N_drew)); exact HO190.out) gb191 (Nat.le_of_eq hg.symm)) hb); have n2_ := aM (bS (by apply_rules [HB.out, bA, pN, bD]) hb); have n3_ := aM (hbox); have n4_ := aM ((by rw [hg]; exact (bZ (by apply_rules [HB.out, bA, pN, bD])) : w.heap.size ≤ gb191)); have n5_ := aM ((by rw [hg]; exact (bZ (by apply_rules [HB.out, bA, pN, bD])) : w.heap.size ≤ gb191)); clear HO0 HO190 HB; have HO0 := n0_; have HO190 := n1_; have HB := n2_; have BK191 := n3_; have GW191 := n4_; have GE191 := n5_; clear n0_ n1_ n2_ n3_ n4_ n5_ hb hbox hg))
 go_loopg [4, 13] k (fun kq v4 v13 w' => ∃ (x4_1 : Int) (x13_1 : Int) (x192001_1 : List Int) (x192002_1 : List (List Int)) (u192001 : Value) (u192002 : Value), v4 = .int .i64 x4_1 ∧ v13 = .int .i64 x13_1 ∧ Aside0 (load_newLine.l0 kq x4_1 l0 (l0.length : Int) x13_1 l0 x192001_1 x192002_1 = some r) ∧ Aside0 (kq ≤ k) ∧ Aside0 (Kd.V k40 40 w' w.heap.size (fun k_ => (P0_ k_ ∨ w.heap.size ≤ k_) ∧ some k_ ≠ (u192001 : Value).ownBlock ∧ some k_ ≠ (u192002 : Value).ownBlock ∧ k_ ≠ gb191) (.slice A0 l0.length c0) l0) ∧ Aside0 (Kd.V k40 40 w' w.heap.size (fun k_ => (P0_ k_ ∨ w.heap.size ≤ k_) ∧ some k_ ≠ (u192001 : Value).ownBlock ∧ some k_ ≠ (u192002 : Value).ownBlock ∧ k_ ≠ gb191) (.slice A0 l0.length c0) l0) ∧ Aside0 (Kd.R (Kd.int .i64) 3 w' w.heap.size (fun k_ => (w.heap.size ≤ k_)) u192001 x192001_1) ∧ Aside0 (Kd.N (Kd.slice 65 (Kd.int .u64)) 53 w' w.heap.size (fun k_ => (P0_ k_ ∨ w.heap.size ≤ k_) ∧ some k_ ≠ (u192001 : Value).ownBlock ∧ k_ ≠ gb191) u192002 x192002_1) ∧ Aside0 (w'.heap[gb191]? = some (.cells #[(.slice A0 l0.length c0), u192001, u192002] 51 (0, 0))) ∧ Aside0 (Below w.heap.size w w'))
 case atStart => exact ⟨(0), (0), (([] : List Int)), (y188), (.slice none 0 0), (.slice Ao4 y188.length co4), (by first | rfl | (simp; done) | (simp [*]; done)), (by first | rfl | (simp; done) | (simp [*]; done)), H', ⟨Nat.le_refl _⟩, ⟨by (with_reducible repeat (first | apply Kd.V_alloc | apply Kd.V_drewN | apply Kd.V_drew)); exact Kd.V_mono HO0.out (fun _ hk => ⟨hk.1.1, ⟨(by simp [Value.ownBlock]), ⟨hk.1.2, hk.2⟩⟩⟩)⟩, ⟨by (with_reducible repeat (first | apply Kd.V_alloc | apply Kd.V_drewN | apply Kd.V_drew)); exact Kd.V_mono HO0.out (fun _ hk => ⟨hk.1.1, ⟨(by simp [Value.ownBlock]), ⟨hk.1.2, hk.2⟩⟩⟩)⟩, ⟨by first | exact Kd.R_nil _ _ _ _ _ | exact Kd.N_nil _ _ _ _ _ | exact Kd.V_nil _ _ _ _ _ | exact Kd.Q_nil _ _ _ _ _ | exact Kd.S_nil _ _ _ _ _⟩, ⟨by (with_reducible repeat (first | apply Kd.N_alloc | apply Kd.N_drewN | apply Kd.N_drew)); exact Kd.N_mono HO190.out (fun _ hk => ⟨hk.1, ⟨(by simp [Value.ownBlock]), hk.2⟩⟩)⟩, ⟨by (with_reducible repeat (first | refine kN ?_ _ | refine kD ?_ | refine kA ?_ _)); exact BK191.out⟩, ⟨by repeat (first | (with_reducible first | exact HB.out | apply bA | apply pN | apply bD | refine bE ?_ GE191.out) | exact HB.out)⟩⟩
 case round =>
  clear H'
  try clear c1
  try clear p2
  obtain ⟨x4_1, x13_1, x192001_1, x192002_1, u192001, u192002, rfl, rfl, HA, HK1, HO_11, HO_192000, HO_192001, HO_192002, BK191, HB⟩ := hrel
  cases gk with
  | zero => exact absurd HA.out (by simp [load_newLine.l0])
  | succ k1 =>
   have H := HA.out
   clear HA
   simp only [load_newLine.l0] at H
   by_cases c6 : x13_1 < (l0.length : Int)
   ·rw [if_pos c6] at H
    have c6b0 : decide (x13_1 < (l0.length : Int)) = true := dT c6
    clear c6
    by_cases c7 : 0 ≤ x13_1
    rotate_left
    ·rw [if_neg c7] at H; cases H
    rw [if_pos c7] at H
    have c7b0 : decide (0 ≤ x13_1) = true := dT c7
    clear c7
    by_cases c8 : x13_1 < (l0.length : Int)
    rotate_left
    ·rw [if_neg c8] at H; cases H
    rw [if_pos c8] at H
    have c8b0 : decide (x13_1 < (l0.length : Int)) = true := dT c8
    clear c8
    by_cases c9 : x192001_1.length < 17592186044416
    rotate_left
    ·rw [if_neg c9] at H; cases H
    rw [if_pos c9] at H
    have LMc9 := aM c9
    clear c9
    obtain ⟨y194, hy194⟩ : ∃ y_ : List Int, y_ = (x192001_1 ++ [x4_1]) := ⟨_, rfl⟩
    replace H : (if x13_1 < (x192002_1.length : Int) then ((load_product.f k1 (([wrap64 (((rd_T40 l0 x13_1).f1) + ((rd_T40 l0 x13_1).f2)), (rd_T40 l0 x13_1).f0] : List Int))).bind fun t201 => ((nat_Add.f k1 (rd_L3 x192002_1 x13_1) t201).bind fun t204 => (if x192002_1.length < 5864062014805 then (load_newLine.l0 k1 (wrap64 (x4_1 + ((rd_T40 l0 x13_1).f0))) l0 (l0.length : Int) (wrap64 (x13_1 + 1)) l0 y194 (x192002_1 ++ [t204])) else (none)))) else (none)) = some r := by first | (rw [hy194]; exact H) | exact H
    have Ny194 := aM hy194
    clear hy194
    by_cases c10 : x13_1 < (x192002_1.length : Int)
    rotate_left
    ·rw [if_neg c10] at H; cases H
    rw [if_pos c10] at H
    have c10b0 : decide (x13_1 < (x192002_1.length : Int)) = true := dT c10
    clear c10
    obtain ⟨y198, hy198⟩ : ∃ y_ : List Int, y_ = (([wrap64 (((rd_T40 l0 x13_1).f1) + ((rd_T40 l0 x13_1).f2)), (rd_T40 l0 x13_1).f0] : List Int)) := ⟨_, rfl⟩
    replace H : ((load_product.f k1 y198).bind fun t201 => ((nat_Add.f k1 (rd_L3 x192002_1 x13_1) t201).bind fun t204 => (if x192002_1.length < 5864062014805 then (load_newLine.l0 k1 (wrap64 (x4_1 + ((rd_T40 l0 x13_1).f0))) l0 (l0.length : Int) (wrap64 (x13_1 + 1)) l0 y194 (x192002_1 ++ [t204])) else (none)))) = some r := by first | (rw [hy198]; exact H) | exact H
    have Ny198 := aM hy198
    clear hy198
    replace H := oB H
    obtain ⟨t201, A110, H⟩ := H
    replace H : ((nat_Add.f k1 (rd_L3 x192002_1 x13_1) t201).bind fun t204 => (if x192002_1.length < 5864062014805 then (load_newLine.l0 k1 (wrap64 (x4_1 + ((rd_T40 l0 x13_1).f0))) l0 (l0.length : Int) (wrap64 (x13_1 + 1)) l0 y194 (x192002_1 ++ [t204])) else (none))) = some r := H
    have A11 := aM A110; clear A110
    replace H := oB H
    obtain ⟨t204, A120, H⟩ := H
    replace H : (if x192002_1.length < 5864062014805 then (load_newLine.l0 k1 (wrap64 (x4_1 + ((rd_T40 l0 x13_1).f0))) l0 (l0.length : Int) (wrap64 (x13_1 + 1)) l0 y194 (x192002_1 ++ [t204])) else (none)) = some r := H
    have A12 := aM A120; clear A120
    by_cases c13 : x192002_1.length < 5864062014805
    rotate_left
    ·rw [if_neg c13] at H; cases H
    rw [if_pos c13] at H
    have LMc13 := aM c13
    clear c13
    obtain ⟨y207, hy207⟩ : ∃ y_ : List (List Int), y_ = (x192002_1 ++ [t204]) := ⟨_, rfl⟩
    replace H : (load_newLine.l0 k1 (wrap64 (x4_1 + ((rd_T40 l0 x13_1).f0))) l0 (l0.length : Int) (wrap64 (x13_1 + 1)) l0 y194 y207) = some r := by first | (rw [hy207]; exact H) | exact H
    have Ny207 := aM hy207
    clear hy207; have H' := aM H; clear H
    have p192 : 0 ≤ (x13_1 : Int) := oD (by first | (with_reducible assumption) | assumption)
    have q192 : x13_1 < (l0.length : Int) := oD (by first | (with_reducible assumption) | assumption)
    obtain ⟨ad192, e192, hx192_0, hx192_1, hx192_2⟩ := at_T40 (Kd.V_reads' HO_11.out).2.2 x13_1 p192 q192
    cases e192
    replace p192 := eq_true p192
    replace q192 := eq_true q192
    try go_wp2_with (first | ((with_reducible refine gate_dst (N := 6) rfl ?_); refine box_event ?hg (N := 6) ?hd (cs := #[.int .i64 0, .int .i64 0, .int .i64 0]) (t := 40) ?hr ?_; (case hd => rfl); (case hg => rfl); (case hr => first | (go_simp; done) | (go_simp; rfl)); intro gb193 hg w14 hbox hb; have n0_ := aM (Kd.V_below (Kd.V_elderB (by (with_reducible repeat (first | apply Kd.V_alloc | apply Kd.V_drewN | apply Kd.V_drew)); exact HO_11.out) gb193 (Nat.le_of_eq hg.symm)) hb); have n1_ := aM (Kd.V_below (Kd.V_elderB (by (with_reducible repeat (first | apply Kd.V_alloc | apply Kd.V_drewN | apply Kd.V_drew)); exact HO_192000.out) gb193 (Nat.le_of_eq hg.symm)) hb); have n2_ := aM (rO (by apply_rules [HO_192001.out, rN, rD]) hb); have n3_ := aM (Kd.N_below (Kd.N_elderB (by (with_reducible repeat (first | apply Kd.N_alloc | apply Kd.N_drewN | apply Kd.N_drew)); exact HO_192002.out) gb193 (Nat.le_of_eq hg.symm)) hb); have n4_ := aM (blk_below (g := gb191) (o := .cells #[.slice (some ad192) l0.length c0, u192001, u192002] 51 (0, 0)) (by apply_rules [BK191.out, kN, kD, kA]) hb); have n5_ := aM (bS (by repeat (first | (with_reducible first | exact HB.out | apply bA | apply pN | apply bD | refine bE ?_ GE191.out) | exact HB.out)) hb); have n6_ := aM (hbox); have n7_ := aM ((by rw [hg]; exact (bZ (by repeat (first | (with_reducible first | exact HB.out | apply bA | apply pN | apply bD | refine bE ?_ GE191.out) | exact HB.out))) : w.heap.size ≤ gb193)); have n8_ := aM ((by rw [hg]; exact (bZ (by repeat (first | (with_reducible first | exact HB.out | apply bA | apply pN | apply bD | refine bE ?_ GE191.out) | exact HB.out))) : w.heap.size ≤ gb193)); have n9_ := aM ((by rw [hg]; exact Nat.ne_of_lt (blk_lt (g := gb191) (o := .cells #[.slice (some ad192) l0.length c0, u192001, u192002] 51 (0, 0)) (by apply_rules [BK191.out, kN, kD, kA])) : gb191 ≠ gb193)); have n10_ := aM ((by rw [hg]; exact Nat.ne_of_gt (blk_lt (g := gb191) (o := .cells #[.slice (some ad192) l0.length c0, u192001, u192002] 51 (0, 0)) (by apply_rules [BK191.out, kN, kD, kA])) : gb193 ≠ gb191)); clear HO_11 HO_192000 HO_192001 HO_192002 BK191 HB; have HO_11 := n0_; have HO_192000 := n1_; have HO_192001 := n2_; have HO_192002 := n3_; have BK191 := n4_; have HB := n5_; have BK193 := n6_; have GW193 := n7_; have GE193 := n8_; have NB191_193 := n9_; have NB193_191 := n10_; clear n0_ n1_ n2_ n3_ n4_ n5_ n6_ n7_ n8_ n9_ n10_ hb hbox hg; have hnb15 := NB193_191.out; have hnc15 := NB191_193.out; have hcz16_0 : w14.cell? ⟨gb193, 0, none⟩ = some (.int .i64 0) := (kC BK193.out 0).trans rfl; have hcz16_1 : w14.cell? ⟨gb193, 1, none⟩ = some (.int .i64 0) := (kC BK193.out 1).trans rfl; have hcz16_2 : w14.cell? ⟨gb193, 2, none⟩ = some (.int .i64 0) := (kC BK193.out 2).trans rfl; have hfz16_0 := blk_frozen BK193.out 0; have hfz16_1 := blk_frozen BK193.out 1; have hfz16_2 := blk_frozen BK193.out 2; have hcz17_0 : w14.cell? ⟨gb191, 0, none⟩ = some (.slice (some ad192) l0.length c0) := (kC BK191.out 0).trans rfl; have hcz17_1 : w14.cell? ⟨gb191, 1, none⟩ = some (u192001) := (kC BK191.out 1).trans rfl; have hcz17_2 : w14.cell? ⟨gb191, 2, none⟩ = some (u192002) := (kC BK191.out 2).trans rfl; have hfz17_0 := blk_frozen BK191.out 0; have hfz17_1 := blk_frozen BK191.out 1; have hfz17_2 := blk_frozen BK191.out 2) | ((with_reducible refine gate_builtin (b := .append) (xs := #[.tmp 22, .tmp 24]) rfl ?_); at_builtin; refine Kd.R_append (Kd.int .i64) (w0 := w) w.heap.size rfl (.tmp 22) (.tmp 24) 22 3 (.int .i64 0) 8 rfl Try.underlying22 info3 rfl (by decide) (by omega) u192001 x192001_1 x4_1 [.int .i64 x4_1] (fun k_ => (w.heap.size ≤ k_)) (fun _ => False) rfl (by first | (go_simp; done) | (go_simp; rfl)) ?aP (fun _ hk => hk.elim) ?aF ?aO ?aB ?aS ?aL ?_; (case aP => exact rfl); (case aB => exact (by repeat (first | (with_reducible first | exact HB.out | apply bA | apply pN | apply bD | refine bE ?_ GE191.out | refine bE ?_ GE193.out) | exact HB.out))); (case aF => exact (fun k_ hk => (Nat.le_trans (bZ (by repeat (first | (with_reducible first | exact HB.out | apply bA | apply pN | apply bD | refine bE ?_ GE191.out | refine bE ?_ GE193.out) | exact HB.out))) hk))); (case aO => exact (by (with_reducible repeat (first | apply rN | apply rD)); exact Kd.R_mono (Kd.R_far (p := ⟨gb193, 2, none⟩) (Kd.R_far (p := ⟨gb193, 1, none⟩) (Kd.R_far (p := ⟨gb193, 0, none⟩) (Kd.R_types HO_192001.out BK193.out (by decide)) (fun _ hk => hk.2) (.int .i64 ((rd_T40 l0 x13_1).f0))) (fun _ hk => hk.2) (.int .i64 ((rd_T40 l0 x13_1).f1))) (fun _ hk => hk.2) (.int .i64 ((rd_T40 l0 x13_1).f2))) (fun _ hk => hk.1))); (case aS => exact (bZ (by repeat (first | (with_reducible first | exact HB.out | apply bA | apply pN | apply bD | refine bE ?_ GE191.out | refine bE ?_ GE193.out) | exact HB.out)))); (case aL => have := LMc9.out; omega); intro v195 w18 ho hb hg hat; rw [← Ny194.out] at ho; have n0_ := aM (Kd.V_afterv (ok := (fun k_ => (P0_ k_ ∨ w.heap.size ≤ k_) ∧ some k_ ≠ (u192002 : Value).ownBlock ∧ k_ ≠ gb191 ∧ k_ ≠ gb193)) (by (with_reducible repeat (first | apply Kd.V_alloc | apply Kd.V_drewN | apply Kd.V_drew)); exact Kd.V_mono (Kd.V_far (p := ⟨gb193, 2, none⟩) (Kd.V_far (p := ⟨gb193, 1, none⟩) (Kd.V_far (p := ⟨gb193, 0, none⟩) (Kd.V_mono HO_11.out (fun k_ hk => (⟨hk, hk.2⟩ : _ ∧ k_ ≠ gb193))) (fun _ hk => hk.2) (.int .i64 ((rd_T40 l0 x13_1).f0))) (fun _ hk => hk.2) (.int .i64 ((rd_T40 l0 x13_1).f1))) (fun _ hk => hk.2) (.int .i64 ((rd_T40 l0 x13_1).f2))) (fun _ hk => ⟨⟨hk.1.1.1, ⟨hk.1.1.2.2.1, ⟨hk.1.1.2.2.2, hk.1.2⟩⟩⟩, hk.1.1.2.1⟩)) hg hat); have n1_ := aM (Kd.V_afterv (ok := (fun k_ => (P0_ k_ ∨ w.heap.size ≤ k_) ∧ some k_ ≠ (u192002 : Value).ownBlock ∧ k_ ≠ gb191 ∧ k_ ≠ gb193)) (by (with_reducible repeat (first | apply Kd.V_alloc | apply Kd.V_drewN | apply Kd.V_drew)); exact Kd.V_mono (Kd.V_far (p := ⟨gb193, 2, none⟩) (Kd.V_far (p := ⟨gb193, 1, none⟩) (Kd.V_far (p := ⟨gb193, 0, none⟩) (Kd.V_mono HO_192000.out (fun k_ hk => (⟨hk, hk.2⟩ : _ ∧ k_ ≠ gb193))) (fun _ hk => hk.2) (.int .i64 ((rd_T40 l0 x13_1).f0))) (fun _ hk => hk.2) (.int .i64 ((rd_T40 l0 x13_1).f1))) (fun _ hk => hk.2) (.int .i64 ((rd_T40 l0 x13_1).f2))) (fun _ hk => ⟨⟨hk.1.1.1, ⟨hk.1.1.2.2.1, ⟨hk.1.1.2.2.2, hk.1.2⟩⟩⟩, hk.1.1.2.1⟩)) hg hat); have n2_ := aM (Kd.N_afterv (ok := (fun k_ => (P0_ k_ ∨ w.heap.size ≤ k_) ∧ k_ ≠ gb191 ∧ k_ ≠ gb193)) (by (with_reducible repeat (first | apply Kd.N_alloc | apply Kd.N_drewN | apply Kd.N_drew)); exact Kd.N_mono (Kd.N_far (p := ⟨gb193, 2, none⟩) (Kd.N_far (p := ⟨gb193, 1, none⟩) (Kd.N_far (p := ⟨gb193, 0, none⟩) (Kd.N_mono HO_192002.out (fun k_ hk => (⟨hk, hk.2⟩ : _ ∧ k_ ≠ gb193))) (fun _ hk => hk.2) (.int .i64 ((rd_T40 l0 x13_1).f0))) (fun _ hk => hk.2) (.int .i64 ((rd_T40 l0 x13_1).f1))) (fun _ hk => hk.2) (.int .i64 ((rd_T40 l0 x13_1).f2))) (fun _ hk => ⟨⟨hk.1.1.1, ⟨hk.1.1.2.2, hk.1.2⟩⟩, hk.1.1.2.1⟩)) hg hat); have n3_ := aM (blk_grown (g := gb191) (o := .cells #[.slice (some ad192) l0.length c0, u192001, u192002] 51 (0, 0)) (by (with_reducible repeat (first | refine kN ?_ _ | refine kD ?_ | refine kA ?_ _)); refine blk_far ?_ NB191_193.out _; (with_reducible repeat (first | refine kN ?_ _ | refine kD ?_ | refine kA ?_ _)); refine blk_far ?_ NB191_193.out _; (with_reducible repeat (first | refine kN ?_ _ | refine kD ?_ | refine kA ?_ _)); refine blk_far ?_ NB191_193.out _; (with_reducible repeat (first | refine kN ?_ _ | refine kD ?_ | refine kA ?_ _)); exact BK191.out) hg (Kd.R_ne HO_192001.out BK191.out (by decide))); have n4_ := aM (blk_grown (g := gb193) (o := .cells #[.int .i64 ((rd_T40 l0 x13_1).f0), .int .i64 ((rd_T40 l0 x13_1).f1), .int .i64 ((rd_T40 l0 x13_1).f2)] 40 (0, 0)) (by (with_reducible repeat (first | refine kN ?_ _ | refine kD ?_ | refine kA ?_ _)); refine blk_put (cs := #[.int .i64 ((rd_T40 l0 x13_1).f0), .int .i64 ((rd_T40 l0 x13_1).f1), .int .i64 0]) ?_ 2 _ rfl; (with_reducible repeat (first | refine kN ?_ _ | refine kD ?_ | refine kA ?_ _)); refine blk_put (cs := #[.int .i64 ((rd_T40 l0 x13_1).f0), .int .i64 0, .int .i64 0]) ?_ 1 _ rfl; (with_reducible repeat (first | refine kN ?_ _ | refine kD ?_ | refine kA ?_ _)); refine blk_put (cs := #[.int .i64 0, .int .i64 0, .int .i64 0]) ?_ 0 _ rfl; (with_reducible repeat (first | refine kN ?_ _ | refine kD ?_ | refine kA ?_ _)); exact BK193.out) hg (Kd.R_ne HO_192001.out BK193.out (by decide))); have n5_ := aM (hb); have n6_ := aM (ho); clear HO_11 HO_192000 HO_192002 BK191 BK193 HB HO_192001; have HO_11 := n0_; have HO_192000 := n1_; have HO_192002 := n2_; have BK191 := n3_; have BK193 := n4_; have HB := n5_; have HO196 := n6_; clear n0_ n1_ n2_ n3_ n4_ n5_ n6_ ho hb hg hat; obtain ⟨Ao19, co19, eo19⟩ := Kd.R_slice HO196.out; subst eo19; have hcz20_0 : w18.cell? ⟨gb191, 0, none⟩ = some (.slice (some ad192) l0.length c0) := (kC BK191.out 0).trans rfl; have hcz20_1 : w18.cell? ⟨gb191, 1, none⟩ = some (u192001) := (kC BK191.out 1).trans rfl; have hcz20_2 : w18.cell? ⟨gb191, 2, none⟩ = some (u192002) := (kC BK191.out 2).trans rfl; have hfz20_0 := blk_frozen BK191.out 0; have hfz20_1 := blk_frozen BK191.out 1; have hfz20_2 := blk_frozen BK191.out 2; have hcz21_0 : w18.cell? ⟨gb193, 0, none⟩ = some (.int .i64 ((rd_T40 l0 x13_1).f0)) := (kC BK193.out 0).trans rfl; have hcz21_1 : w18.cell? ⟨gb193, 1, none⟩ = some (.int .i64 ((rd_T40 l0 x13_1).f1)) := (kC BK193.out 1).trans rfl; have hcz21_2 : w18.cell? ⟨gb193, 2, none⟩ = some (.int .i64 ((rd_T40 l0 x13_1).f2)) := (kC BK193.out 2).trans rfl; have hfz21_0 := blk_frozen BK193.out 0; have hfz21_1 := blk_frozen BK193.out 1; have hfz21_2 := blk_frozen BK193.out 2))
    have n0_ : Aside0 (Kd.V k40 40 (w18.setCell ⟨gb191, 1, none⟩ (.slice Ao19 y194.length co19)) w.heap.size (fun k_ => (P0_ k_ ∨ w.heap.size ≤ k_) ∧ some k_ ≠ (u192002 : Value).ownBlock ∧ some k_ ≠ (.slice Ao19 y194.length co19 : Value).ownBlock ∧ k_ ≠ gb191 ∧ k_ ≠ gb193) (.slice (some ad192) l0.length c0) l0) := ⟨by (with_reducible repeat (first | apply Kd.V_alloc | apply Kd.V_drewN | apply Kd.V_drew)); exact Kd.V_mono (Kd.V_far (p := ⟨gb191, 1, none⟩) (Kd.V_mono HO_11.out (fun k_ hk => (⟨hk, hk.1.2.2.1⟩ : _ ∧ k_ ≠ gb191))) (fun _ hk => hk.2) (.slice Ao19 y194.length co19)) (fun _ hk => ⟨hk.1.1.1, ⟨hk.1.1.2.1, ⟨hk.1.2, ⟨hk.1.1.2.2.1, hk.1.1.2.2.2⟩⟩⟩⟩)⟩
    have n1_ : Aside0 (Kd.V k40 40 (w18.setCell ⟨gb191, 1, none⟩ (.slice Ao19 y194.length co19)) w.heap.size (fun k_ => (P0_ k_ ∨ w.heap.size ≤ k_) ∧ some k_ ≠ (u192002 : Value).ownBlock ∧ some k_ ≠ (.slice Ao19 y194.length co19 : Value).ownBlock ∧ k_ ≠ gb191 ∧ k_ ≠ gb193) (.slice (some ad192) l0.length c0) l0) := ⟨by (with_reducible repeat (first | apply Kd.V_alloc | apply Kd.V_drewN | apply Kd.V_drew)); exact Kd.V_mono (Kd.V_far (p := ⟨gb191, 1, none⟩) (Kd.V_mono HO_192000.out (fun k_ hk => (⟨hk, hk.1.2.2.1⟩ : _ ∧ k_ ≠ gb191))) (fun _ hk => hk.2) (.slice Ao19 y194.length co19)) (fun _ hk => ⟨hk.1.1.1, ⟨hk.1.1.2.1, ⟨hk.1.2, ⟨hk.1.1.2.2.1, hk.1.1.2.2.2⟩⟩⟩⟩)⟩
    have n2_ : Aside0 (Kd.N (Kd.slice 65 (Kd.int .u64)) 53 (w18.setCell ⟨gb191, 1, none⟩ (.slice Ao19 y194.length co19)) w.heap.size (fun k_ => (P0_ k_ ∨ w.heap.size ≤ k_) ∧ some k_ ≠ (.slice Ao19 y194.length co19 : Value).ownBlock ∧ k_ ≠ gb191 ∧ k_ ≠ gb193) u192002 x192002_1) := ⟨by (with_reducible repeat (first | apply Kd.N_alloc | apply Kd.N_drewN | apply Kd.N_drew)); exact Kd.N_mono (Kd.N_far (p := ⟨gb191, 1, none⟩) (Kd.N_mono HO_192002.out (fun k_ hk => (⟨hk, hk.1.2.1⟩ : _ ∧ k_ ≠ gb191))) (fun _ hk => hk.2) (.slice Ao19 y194.length co19)) (fun _ hk => ⟨hk.1.1.1, ⟨hk.1.2, ⟨hk.1.1.2.1, hk.1.1.2.2⟩⟩⟩)⟩
    have n3_ : Aside0 (Kd.R (Kd.int .i64) 3 (w18.setCell ⟨gb191, 1, none⟩ (.slice Ao19 y194.length co19)) w.heap.size (fun k_ => (w.heap.size ≤ k_)) (.slice Ao19 y194.length co19) y194) := ⟨by (with_reducible repeat (first | apply rN | apply rD)); exact Kd.R_mono (Kd.R_far (p := ⟨gb191, 1, none⟩) (Kd.R_types HO196.out BK191.out (by decide)) (fun _ hk => hk.2) (.slice Ao19 y194.length co19)) (fun _ hk => hk.1)⟩
    have n4_ : Aside0 ((w18.setCell ⟨gb191, 1, none⟩ (.slice Ao19 y194.length co19)).heap[gb191]? = some (.cells #[.slice (some ad192) l0.length c0, .slice Ao19 y194.length co19, u192002] 51 (0, 0))) := ⟨by (with_reducible repeat (first | refine kN ?_ _ | refine kD ?_ | refine kA ?_ _)); refine blk_put (cs := #[.slice (some ad192) l0.length c0, u192001, u192002]) ?_ 1 _ rfl; (with_reducible repeat (first | refine kN ?_ _ | refine kD ?_ | refine kA ?_ _)); exact BK191.out⟩
    have n5_ : Aside0 ((w18.setCell ⟨gb191, 1, none⟩ (.slice Ao19 y194.length co19)).heap[gb193]? = some (.cells #[.int .i64 ((rd_T40 l0 x13_1).f0), .int .i64 ((rd_T40 l0 x13_1).f1), .int .i64 ((rd_T40 l0 x13_1).f2)] 40 (0, 0))) := ⟨by (with_reducible repeat (first | refine kN ?_ _ | refine kD ?_ | refine kA ?_ _)); refine blk_far ?_ NB193_191.out _; (with_reducible repeat (first | refine kN ?_ _ | refine kD ?_ | refine kA ?_ _)); exact BK193.out⟩
    have n6_ : Aside0 (Below w.heap.size w (w18.setCell ⟨gb191, 1, none⟩ (.slice Ao19 y194.length co19))) := ⟨by repeat (first | (with_reducible first | exact HB.out | apply bA | apply pN | apply bD | refine bE ?_ GE191.out | refine bE ?_ GE193.out) | exact HB.out)⟩
    (try clear HO_11)
    (try clear HO_192000)
    (try clear HO_192002)
    (try clear HO196)
    (try clear BK191)
    (try clear BK193)
    (try clear HB)
    generalize (w18.setCell ⟨gb191, 1, none⟩ (.slice Ao19 y194.length co19)) = w22 at n0_ n1_ n2_ n3_ n4_ n5_ n6_ ⊢
    have HO_11 := n0_; have HO_192000 := n1_; have HO_192002 := n2_; have HO196 := n3_; have BK191 := n4_; have BK193 := n5_; have HB := n6_; clear n0_ n1_ n2_ n3_ n4_ n5_ n6_; have n0_ := aM (Kd.V_drew HO_11.out); have n1_ := aM (Kd.V_drew HO_192000.out); have n2_ := aM (Kd.N_drew HO_192002.out); have n3_ := aM (rD HO196.out); have n4_ := aM (kD BK191.out); have n5_ := aM (kD BK193.out); have n6_ := aM (bD HB.out); clear HO_11 HO_192000 HO_192002 HO196 BK191 BK193 HB; have HO_11 := n0_; have HO_192000 := n1_; have HO_192002 := n2_; have HO196 := n3_; have BK191 := n4_; have BK193 := n5_; have HB := n6_; clear n0_ n1_ n2_ n3_ n4_ n5_ n6_
    obtain ⟨Ao24, co24, eo24⟩ := Kd.N_slice HO_192002.out
    (first | subst eo24 | (injection eo24 with f1_ f2_ f3_; have f4_ := f1_.symm; have f5_ := f3_.symm; clear f1_ f2_ f3_; subst f4_; subst f5_))
    have p197 : 0 ≤ (x13_1 : Int) := oD (by first | (with_reducible assumption) | assumption)
    have q197 : x13_1 < (x192002_1.length : Int) := oD (by first | (with_reducible assumption) | assumption)
    obtain ⟨ad197, A197_0, c197_0, e197, hx197_0, hl197_0, hi197_0⟩ := at_L3 (Kd.N_reads' HO_192002.out).2.2 x13_1 p197 q197
    cases e197
    obtain ⟨ce197, hce197, hMe197, hcc197⟩ := Kd.N_get HO_192002.out [] x13_1 p197 (by first | exact q197 | exact oD (by first | (with_reducible assumption) | assumption) | (have e_ := (Kd.N_reads' HO_192002.out).1; omega))
    obtain ⟨ua197_0, uc197_0, rfl, ul197_0, ge197_0⟩ := Kd.FK_slice_open hMe197
    have hv197_0 := hcc197 0 _ rfl
    rw [Nat.add_zero, show ((Kd.slice 65 (Kd.int .u64))).sz = 1 from rfl, Nat.mul_one] at hv197_0
    replace hv197_0 := Option.some.inj (hv197_0.symm.trans hx197_0)
    injection hv197_0 with hva_ hvn_ hvc_
    rw [hva_] at ge197_0
    rw [hvc_] at ul197_0
    have HL197_0 := aM (show Kd.V (Kd.int .u64) 65 _ w.heap.size _ _ (rd_L3 x192002_1 x13_1) from Kd.V_mk ul197_0 ge197_0)
    clear hva_ hvn_ hvc_ ge197_0 ul197_0 hcc197 hce197
    have HR197_0 := aM hi197_0
    have HC197_0 := aM hl197_0
    clear hi197_0 hl197_0
    replace p197 := eq_true p197
    replace q197 := eq_true q197
    refine start_ (n := 27) (S := fun w' => w'.cell? ⟨gb191, 0, none⟩ = some (.slice (some ad192) l0.length c0) ∧ w'.cell? ⟨gb191, 1, none⟩ = some (.slice Ao19 y194.length co19) ∧ w'.cell? ⟨gb191, 2, none⟩ = some (.slice (some ad197) x192002_1.length co24) ∧ w'.cell? ⟨gb193, 0, none⟩ = some (.int .i64 ((rd_T40 l0 x13_1).f0)) ∧ w'.cell? ⟨gb193, 1, none⟩ = some (.int .i64 ((rd_T40 l0 x13_1).f1)) ∧ w'.cell? ⟨gb193, 2, none⟩ = some (.int .i64 ((rd_T40 l0 x13_1).f2)) ∧ w'.cell? (ad197.add (x13_1).toNat) = some (.slice A197_0 (rd_L3 x192002_1 x13_1).length c197_0)) (ds := [23, 26]) #[false, false, false, false, false, false, false, false, false, false, false, false, false, false, false, false, false, false, false, false, false, false, false, false, false, false, false] (by kernel_rfl) rfl rfl ⟨(kC BK191.out 0).trans rfl, (kC BK191.out 1).trans rfl, (kC BK191.out 2).trans rfl, (kC BK193.out 0).trans rfl, (kC BK193.out 1).trans rfl, (kC BK193.out 2).trans rfl, hx197_0⟩ (fun hHeld => ?_); refine with_tabW load_newLine.tab8 load_newLine.bits8 (fun HT_ HW_ => ?_)
    generalize w22.drew = w23 at HO_11 HO_192000 HO_192002 HO196 BK191 BK193 HB HL197_0 HR197_0 hx197_0 hHeld ⊢
    refine pure_ (i := 0) (N := some 32) (v := ?_) (a' := ?_) #[true, false, false, false, false, false, false, false, false, false, false, false, false, false, false, false, false, false, false, false, false, false, false, false, false, false, false] rfl rfl (any_of HT_.out (by kernel_rfl)) (fun _ _ _ h => h) (Or.inl ⟨by rfl, ?_⟩) ?_ ?_
    rotate_left
    ·intro w'
     go_simp
     with_reducible rfl
    rotate_left
    ·simp only [Act.put, sI, sZ, sS, i64_w]
     rfl
    refine pure_ (i := 1) (N := some 33) (v := ?_) (a' := ?_) #[true, true, false, false, false, false, false, false, false, false, false, false, false, false, false, false, false, false, false, false, false, false, false, false, false, false, false] rfl rfl (any_of HT_.out (by kernel_rfl)) (fun _ _ _ h => h) (Or.inl ⟨by rfl, ?_⟩) ?_ ?_
    rotate_left
    ·intro w'
     go_simp
     with_reducible rfl
    rotate_left
    ·simp only [Act.put, sI, sZ, sS, i64_w]
     rfl
    refine pure_ (i := 2) (N := some 34) (v := ?_) (a' := ?_) #[true, true, true, false, false, false, false, false, false, false, false, false, false, false, false, false, false, false, false, false, false, false, false, false, false, false, false] rfl rfl (any_of HT_.out (by kernel_rfl)) (fun _ _ _ h => h) (Or.inl ⟨by rfl, ?_⟩) ?_ ?_
    rotate_left
    ·intro w'
     go_simp
     with_reducible rfl
    rotate_left
    ·simp only [Act.put, sI, sZ, sS, i64_w]
     rfl
    refine pure_ (i := 3) (N := some 35) (v := ?_) (a' := ?_) #[true, true, true, true, false, false, false, false, false, false, false, false, false, false, false, false, false, false, false, false, false, false, false, false, false, false, false] rfl rfl (any_of HT_.out (by kernel_rfl)) (fun _ _ _ h => h) (Or.inl ⟨by rfl, ?_⟩) ?_ ?_
    rotate_left
    ·intro w'
     go_simp
     with_reducible rfl
    rotate_left
    ·simp only [Act.put, sI, sZ, sS, i64_w]
     rfl
    refine pure_ (i := 5) (N := some 37) (v := ?_) (a' := ?_) #[true, true, true, true, false, true, false, false, false, false, false, false, false, false, false, false, false, false, false, false, false, false, false, false, false, false, false] rfl rfl (any_of HT_.out (by kernel_rfl)) (fun _ _ _ h => h) (Or.inl ⟨by rfl, ?_⟩) ?_ ?_
    rotate_left
    ·intro w'
     go_simp
     with_reducible rfl
    rotate_left
    ·simp only [Act.put, sI, sZ, sS, i64_w]
     rfl
    refine pure_ (i := 6) (N := some 38) (v := ?_) (a' := ?_) #[true, true, true, true, false, true, true, false, false, false, false, false, false, false, false, false, false, false, false, false, false, false, false, false, false, false, false] rfl rfl (any_of HT_.out (by kernel_rfl)) (fun _ _ _ h => h) (Or.inl ⟨by rfl, ?_⟩) ?_ ?_
    rotate_left
    ·intro w'
     go_simp
     with_reducible rfl
    rotate_left
    ·simp only [Act.put, sI, sZ, sS, i64_w]
     rfl
    refine pure_ (i := 7) (N := some 39) (v := ?_) (a' := ?_) #[true, true, true, true, false, true, true, true, false, false, false, false, false, false, false, false, false, false, false, false, false, false, false, false, false, false, false] rfl rfl (any_of HT_.out (by kernel_rfl)) (fun _ _ _ h => h) (Or.inl ⟨by rfl, ?_⟩) ?_ ?_
    rotate_left
    ·intro w'
     go_simp
     with_reducible rfl
    rotate_left
    ·simp only [Act.put, sI, sZ, sS, i64_w]
     rfl
    refine pure_ (i := 9) (N := some 41) (v := ?_) (a' := ?_) #[true, true, true, true, false, true, true, true, false, true, false, false, false, false, false, false, false, false, false, false, false, false, false, false, false, false, false] rfl rfl (any_of HT_.out (by kernel_rfl)) (fun _ _ _ h => h) (Or.inl ⟨by rfl, ?_⟩) ?_ ?_
    rotate_left
    ·intro w'
     go_simp
     with_reducible rfl
    rotate_left
    ·simp only [Act.put, sI, sZ, sS, i64_w]
     rfl
    refine pure_ (i := 12) (N := some 44) (v := ?_) (a' := ?_) #[true, true, true, true, false, true, true, true, false, true, false, false, true, false, false, false, false, false, false, false, false, false, false, false, false, false, false] rfl rfl (any_of HT_.out (by kernel_rfl)) (fun _ _ _ h => h) (Or.inl ⟨by rfl, ?_⟩) ?_ ?_
    rotate_left
    ·intro w'
     go_simp
     with_reducible rfl
    rotate_left
    ·simp only [Act.put, sI, sZ, sS, i64_w]
     rfl
    refine pure_ (i := 14) (N := some 46) (v := ?_) (a' := ?_) #[true, true, true, true, false, true, true, true, false, true, false, false, true, false, true, false, false, false, false, false, false, false, false, false, false, false, false] rfl rfl (any_of HT_.out (by kernel_rfl)) (fun _ _ _ h => h) (Or.inl ⟨by rfl, ?_⟩) ?_ ?_
    rotate_left
    ·intro w'
     go_simp
     with_reducible rfl
    rotate_left
    ·simp only [Act.put, sI, sZ, sS, i64_w]
     rfl
    refine pure_ (i := 17) (N := some 49) (v := ?_) (a' := ?_) #[true, true, true, true, false, true, true, true, false, true, false, false, true, false, true, false, false, true, false, false, false, false, false, false, false, false, false] rfl rfl (any_of HT_.out (by kernel_rfl)) (fun _ _ _ h => h) (Or.inl ⟨by rfl, ?_⟩) ?_ ?_
    rotate_left
    ·intro w'
     go_simp
     with_reducible rfl
    rotate_left
    ·simp only [Act.put, sI, sZ, sS, i64_w]
     rfl
    refine take_ (i := 4) (N := some 36) (v := ?_) (a' := ?_) #[true, true, true, true, true, true, true, true, false, true, false, false, true, false, true, false, false, true, false, false, false, false, false, false, false, false, false] rfl rfl (take_ofW HT_.out HW_.out (by kernel_rfl)) (fun _ _ _ h => h) (Or.inl ⟨by rfl, ?_⟩) hHeld ?_ ?_
    rotate_left
    ·rintro w' ⟨s0, s1, s2, s3, s4, s5, s6⟩
     go_simp
     with_reducible rfl
    rotate_left
    ·simp only [Act.put, sI, sZ, sS, i64_w]
     rfl
    refine take_ (i := 8) (N := some 40) (v := ?_) (a' := ?_) #[true, true, true, true, true, true, true, true, true, true, false, false, true, false, true, false, false, true, false, false, false, false, false, false, false, false, false] rfl rfl (take_ofW HT_.out HW_.out (by kernel_rfl)) (fun _ _ _ h => h) (Or.inl ⟨by rfl, ?_⟩) hHeld ?_ ?_
    rotate_left
    ·rintro w' ⟨s0, s1, s2, s3, s4, s5, s6⟩
     go_simp
     with_reducible rfl
    rotate_left
    ·simp only [Act.put, sI, sZ, sS, i64_w]
     rfl
    refine pure_ (i := 10) (N := some 42) (v := ?_) (a' := ?_) #[true, true, true, true, true, true, true, true, true, true, true, false, true, false, true, false, false, true, false, false, false, false, false, false, false, false, false] rfl rfl (any_of HT_.out (by kernel_rfl)) (fun _ _ _ h => h) (Or.inl ⟨by rfl, ?_⟩) ?_ ?_
    rotate_left
    ·intro w'
     go_simp
     with_reducible rfl
    rotate_left
    ·simp only [Act.put, sI, sZ, sS, i64_w]
     rfl
    refine take_ (i := 11) (N := some 43) (v := ?_) (a' := ?_) #[true, true, true, true, true, true, true, true, true, true, true, true, true, false, true, false, false, true, false, false, false, false, false, false, false, false, false] rfl rfl (take_ofW HT_.out HW_.out (by kernel_rfl)) (fun _ _ _ h => h) (Or.inl ⟨by rfl, ?_⟩) hHeld ?_ ?_
    rotate_left
    ·rintro w' ⟨s0, s1, s2, s3, s4, s5, s6⟩
     go_simp
     with_reducible rfl
    rotate_left
    ·simp only [Act.put, sI, sZ, sS, i64_w]
     rfl
    refine take_ (i := 13) (N := some 45) (v := ?_) (a' := ?_) #[true, true, true, true, true, true, true, true, true, true, true, true, true, true, true, false, false, true, false, false, false, false, false, false, false, false, false] rfl rfl (take_ofW HT_.out HW_.out (by kernel_rfl)) (fun _ _ _ h => h) (Or.inl ⟨by rfl, ?_⟩) hHeld ?_ ?_
    rotate_left
    ·rintro w' ⟨s0, s1, s2, s3, s4, s5, s6⟩
     go_simp
     with_reducible rfl
    rotate_left
    ·simp only [Act.put, sI, sZ, sS, i64_w]
     rfl
    refine take_ (i := 15) (N := some 47) (v := ?_) (a' := ?_) #[true, true, true, true, true, true, true, true, true, true, true, true, true, true, true, true, false, true, false, false, false, false, false, false, false, false, false] rfl rfl (take_ofW HT_.out HW_.out (by kernel_rfl)) (fun _ _ _ h => h) (Or.inl ⟨by rfl, ?_⟩) hHeld ?_ ?_
    rotate_left
    ·rintro w' ⟨s0, s1, s2, s3, s4, s5, s6⟩
     go_simp
     with_reducible rfl
    rotate_left
    ·simp only [Act.put, sI, sZ, sS, i64_w]
     rfl
    refine pure_ (i := 16) (N := some 48) (v := ?_) (a' := ?_) #[true, true, true, true, true, true, true, true, true, true, true, true, true, true, true, true, true, true, false, false, false, false, false, false, false, false, false] rfl rfl (any_of HT_.out (by kernel_rfl)) (fun _ _ _ h => h) (Or.inl ⟨by rfl, ?_⟩) ?_ ?_
    rotate_left
    ·intro w'
     go_simp
     with_reducible rfl
    rotate_left
    ·simp only [Act.put, sI, sZ, sS, i64_w]
     rfl
    refine take_ (i := 18) (N := some 50) (v := ?_) (a' := ?_) #[true, true, true, true, true, true, true, true, true, true, true, true, true, true, true, true, true, true, true, false, false, false, false, false, false, false, false] rfl rfl (take_ofW HT_.out HW_.out (by kernel_rfl)) (fun _ _ _ h => h) (Or.inl ⟨by rfl, ?_⟩) hHeld ?_ ?_
    rotate_left
    ·rintro w' ⟨s0, s1, s2, s3, s4, s5, s6⟩
     go_simp
     with_reducible rfl
    rotate_left
    ·simp only [Act.put, sI, sZ, sS, i64_w]
     rfl
    refine one_ (i := 19) (N := some 51) #[true, true, true, true, true, true, true, true, true, true, true, true, true, true, true, true, true, true, true, true, false, false, false, false, false, false, false] rfl rfl (one_of HT_.out (by kernel_rfl)) (by decide) (fun K hK => ?_)
    refine Kd.R_lit_step (Kd.int .i64) _ 3 ?hg (N := 51) ?hd (xs := ([wrap64 (((rd_T40 l0 x13_1).f1) + ((rd_T40 l0 x13_1).f2)), (rd_T40 l0 x13_1).f0] : List Int)) (inner := [.int .i64 (wrap64 (((rd_T40 l0 x13_1).f1) + ((rd_T40 l0 x13_1).f2))), .int .i64 ((rd_T40 l0 x13_1).f0)]) (ok := fun _ => True) (okp := fun _ => True) ?hr ?hp (fun _ hk => hk) trivial (Below.refl _ _) (Nat.le_refl _) (by simp) ?_; (case hd => rfl); (case hg => rfl); (case hr => first | (go_simp; done) | (go_simp; rfl)); (case hp => exact (Reps.one (show Kd.M (Kd.int .i64) _ _ _ (wrap64 (((rd_T40 l0 x13_1).f1) + ((rd_T40 l0 x13_1).f2))) [.int .i64 (wrap64 (((rd_T40 l0 x13_1).f1) + ((rd_T40 l0 x13_1).f2)))] from rfl) (Reps.one (show Kd.M (Kd.int .i64) _ _ _ ((rd_T40 l0 x13_1).f0) [.int .i64 ((rd_T40 l0 x13_1).f0)] from rfl) (Reps.none _ _))))
    intro v199 w25 ho26 hb hg_ hnew_
    have HS6_ := (hb.cell (wL _ _ (hHeld.2.2.2.2.2.2))).trans (hHeld.2.2.2.2.2.2)
    clear hg_ hnew_
    (first | rw [← Ny198.out] at ho26 | (simp only [Int.reduceToNat] at ho26; rw [← Ny198.out] at ho26))
    have n0_ := aM (Kd.V_elder' (by (with_reducible repeat (first | apply Kd.V_alloc | apply Kd.V_drewN | apply Kd.V_drew)); exact HO_11.out) (rB ho26) hb); have n1_ := aM (Kd.V_elder' (by (with_reducible repeat (first | apply Kd.V_alloc | apply Kd.V_drewN | apply Kd.V_drew)); exact HO_192000.out) (rB ho26) hb); have n2_ := aM (Kd.N_elder' (by (with_reducible repeat (first | apply Kd.N_alloc | apply Kd.N_drewN | apply Kd.N_drew)); exact HO_192002.out) (rB ho26) hb); have n3_ := aM (rE (by apply_rules [HO196.out, rN, rD]) (rB ho26) hb); have n4_ := aM (Kd.V_elder' (by (with_reducible repeat (first | apply Kd.V_alloc | apply Kd.V_drewN | apply Kd.V_drew)); exact HL197_0.out) (rB ho26) hb); have n5_ := aM (Kd.R_lower (rW (Kd.R_newM (M := fun k_ => (w.heap.size ≤ k_)) ho26 (bZ (by repeat (first | (with_reducible first | exact HB.out | apply bA | apply pN | apply bD | refine bE ?_ GE191.out | refine bE ?_ GE193.out) | exact HB.out))) (fun k_ h_ => h_)) (rL (by apply_rules [HO196.out, rN, rD]))) (bZ (by repeat (first | (with_reducible first | exact HB.out | apply bA | apply pN | apply bD | refine bE ?_ GE191.out | refine bE ?_ GE193.out) | exact HB.out)))); have n6_ := aM (blk_below (g := gb191) (o := .cells #[.slice (some ad192) l0.length c0, .slice Ao19 y194.length co19, .slice (some ad197) x192002_1.length co24] 51 (0, 0)) (by apply_rules [BK191.out, kN, kD, kA]) hb); have n7_ := aM (blk_below (g := gb193) (o := .cells #[.int .i64 ((rd_T40 l0 x13_1).f0), .int .i64 ((rd_T40 l0 x13_1).f1), .int .i64 ((rd_T40 l0 x13_1).f2)] 40 (0, 0)) (by apply_rules [BK193.out, kN, kD, kA]) hb); have n8_ := aM (Kd.C_below (by repeat (first | (with_reducible exact HR197_0.out) | (with_reducible refine cA ?_ _) | (with_reducible refine cN ?_ _) | (with_reducible refine cD ?_) | exact HR197_0.out)) hb); have n9_ := aM (bS (by repeat (first | (with_reducible first | exact HB.out | apply bA | apply pN | apply bD | refine bE ?_ GE191.out | refine bE ?_ GE193.out) | exact HB.out)) hb); clear HO_11 HO_192000 HO_192002 HO196 HL197_0 BK191 BK193 HR197_0 HB; have HO_11 := n0_; have HO_192000 := n1_; have HO_192002 := n2_; have HO196 := n3_; have HL197_0 := n4_; have HO200 := n5_; have BK191 := n6_; have BK193 := n7_; have HR197_0 := n8_; have HB := n9_; clear n0_ n1_ n2_ n3_ n4_ n5_ n6_ n7_ n8_ n9_ hb ho26
    obtain ⟨Ao27, co27, eo27⟩ := Kd.R_slice HO200.out
    (first | subst eo27 | (injection eo27 with f1_ f2_ f3_; have f4_ := f1_.symm; have f5_ := f3_.symm; clear f1_ f2_ f3_; subst f4_; subst f5_))
    refine hK.out _ _ ⟨(kC BK191.out 0).trans rfl, (kC BK191.out 1).trans rfl, (kC BK191.out 2).trans rfl, (kC BK193.out 0).trans rfl, (kC BK193.out 1).trans rfl, (kC BK193.out 2).trans rfl, HS6_⟩ (fun hHeld => ?_)
    clear hK K
    refine norm_ (a' := ?_) ?_ ?_
    rotate_left
    ·show Act.put _ (some 51) _ = _
     simp only [Act.put, sI, sZ, sS, i64_w]
     rfl
    refine one_ (i := 20) (N := some 52) #[true, true, true, true, true, true, true, true, true, true, true, true, true, true, true, true, true, true, true, true, true, false, false, false, false, false, false] rfl rfl (one_of HT_.out (by kernel_rfl)) (by decide) (fun K hK => ?_)
    refine goes_ Try.func21 (by kernel_rfl) rfl #[.slice Ao27 y198.length co27] (by rfl) rfl rfl (by (try simp only [mA, mC, mN]); first | done | rfl | (simp only [lD, lT]; rfl)) ?_
    with_reducible refine (load_product.calls k1 _ _ y198 t201 _ ?side1 ?side2 A11.out).mono ?_
    (case side1 => repeat (first | exact (rS HO200.out).2.2 | (with_reducible refine cA ?_ _) | (with_reducible refine cN ?_ _) | (with_reducible refine cD ?_)))
    (case side2 => exact (rS HO200.out).2.1)
    rintro e w28 ⟨v202, rfl, ho0, hb⟩
    have HS6_ := (hb.cell (wL _ _ (hHeld.2.2.2.2.2.2))).trans (hHeld.2.2.2.2.2.2)
    refine ⟨_, rfl, ?_⟩
    have n0_ := aM (Kd.V_elder' (by (with_reducible repeat (first | apply Kd.V_alloc | apply Kd.V_drewN | apply Kd.V_drew)); exact HO_11.out) (rB ho0) hb); have n1_ := aM (Kd.V_elder' (by (with_reducible repeat (first | apply Kd.V_alloc | apply Kd.V_drewN | apply Kd.V_drew)); exact HO_192000.out) (rB ho0) hb); have n2_ := aM (Kd.N_elder' (by (with_reducible repeat (first | apply Kd.N_alloc | apply Kd.N_drewN | apply Kd.N_drew)); exact HO_192002.out) (rB ho0) hb); have n3_ := aM (rO (by apply_rules [HO196.out, rN, rD]) hb); have n4_ := aM (Kd.V_elder' (by (with_reducible repeat (first | apply Kd.V_alloc | apply Kd.V_drewN | apply Kd.V_drew)); exact HL197_0.out) (rB ho0) hb); have n5_ := aM (rO (by apply_rules [HO200.out, rN, rD]) hb); have n6_ := aM (Kd.R_lower (Kd.R_newM (M := fun k_ => (w.heap.size ≤ k_)) ho0 (bZ (by repeat (first | (with_reducible first | exact HB.out | apply bA | apply pN | apply bD | refine bE ?_ GE191.out | refine bE ?_ GE193.out) | exact HB.out))) (fun k_ h_ => h_)) (bZ (by repeat (first | (with_reducible first | exact HB.out | apply bA | apply pN | apply bD | refine bE ?_ GE191.out | refine bE ?_ GE193.out) | exact HB.out)))); have n7_ := aM (blk_below (g := gb191) (o := .cells #[.slice (some ad192) l0.length c0, .slice Ao19 y194.length co19, .slice (some ad197) x192002_1.length co24] 51 (0, 0)) (by apply_rules [BK191.out, kN, kD, kA]) hb); have n8_ := aM (blk_below (g := gb193) (o := .cells #[.int .i64 ((rd_T40 l0 x13_1).f0), .int .i64 ((rd_T40 l0 x13_1).f1), .int .i64 ((rd_T40 l0 x13_1).f2)] 40 (0, 0)) (by apply_rules [BK193.out, kN, kD, kA]) hb); have n9_ := aM (Kd.C_below (by repeat (first | (with_reducible exact HR197_0.out) | (with_reducible refine cA ?_ _) | (with_reducible refine cN ?_ _) | (with_reducible refine cD ?_) | exact HR197_0.out)) hb); have n10_ := aM (bS (by repeat (first | (with_reducible first | exact HB.out | apply bA | apply pN | apply bD | refine bE ?_ GE191.out | refine bE ?_ GE193.out) | exact HB.out)) hb); clear HO_11 HO_192000 HO_192002 HO196 HL197_0 HO200 BK191 BK193 HR197_0 HB; have HO_11 := n0_; have HO_192000 := n1_; have HO_192002 := n2_; have HO196 := n3_; have HL197_0 := n4_; have HO200 := n5_; have HO203 := n6_; have BK191 := n7_; have BK193 := n8_; have HR197_0 := n9_; have HB := n10_; clear n0_ n1_ n2_ n3_ n4_ n5_ n6_ n7_ n8_ n9_ n10_
    (try clear hb)
    (try clear hb2)
    (try clear hk)
    (try clear hi)
    (try clear ho0)
    obtain ⟨Ao29, co29, eo29⟩ := Kd.R_slice HO203.out
    (first | subst eo29 | (injection eo29 with f1_ f2_ f3_; have f4_ := f1_.symm; have f5_ := f3_.symm; clear f1_ f2_ f3_; subst f4_; subst f5_))
    refine hK.out _ _ ⟨(kC BK191.out 0).trans rfl, (kC BK191.out 1).trans rfl, (kC BK191.out 2).trans rfl, (kC BK193.out 0).trans rfl, (kC BK193.out 1).trans rfl, (kC BK193.out 2).trans rfl, HS6_⟩ (fun hHeld => ?_)
    clear hK K
    refine norm_ (a' := ?_) ?_ ?_
    rotate_left
    ·show Act.put _ (some 52) _ = _
     simp only [Act.put, sI, sZ, sS, i64_w]
     rfl
    refine one_ (i := 21) (N := some 53) #[true, true, true, true, true, true, true, true, true, true, true, true, true, true, true, true, true, true, true, true, true, true, false, false, false, false, false] rfl rfl (one_of HT_.out (by kernel_rfl)) (by decide) (fun K hK => ?_)
    refine goes_ Try.func20 (by kernel_rfl) rfl #[.slice A197_0 (rd_L3 x192002_1 x13_1).length c197_0, .slice Ao29 t201.length co29] (by rfl) rfl rfl (by (try simp only [mA, mC, mN]); first | done | rfl | (simp only [lD, lT]; rfl)) ?_
    with_reducible refine (nat_Add.calls k1 _ _ (rd_L3 x192002_1 x13_1) _ _ t201 t204 _ ?side1 ?side2 ?side3 ?side4 A12.out).mono ?_
    (case side1 => repeat (first | exact (by repeat (first | (with_reducible exact HR197_0.out) | (with_reducible refine cA ?_ _) | (with_reducible refine cN ?_ _) | (with_reducible refine cD ?_) | exact HR197_0.out)) | (with_reducible refine cA ?_ _) | (with_reducible refine cN ?_ _) | (with_reducible refine cD ?_)))
    (case side2 => exact HC197_0.out)
    (case side3 => repeat (first | exact (rS HO203.out).2.2 | (with_reducible refine cA ?_ _) | (with_reducible refine cN ?_ _) | (with_reducible refine cD ?_)))
    (case side4 => exact (rS HO203.out).2.1)
    rintro e w30 ⟨v205, rfl, ho0, hb⟩
    have HS6_ := (hb.cell (wL _ _ (hHeld.2.2.2.2.2.2))).trans (hHeld.2.2.2.2.2.2)
    refine ⟨_, rfl, ?_⟩
    have n0_ := aM (Kd.V_elder' (by (with_reducible repeat (first | apply Kd.V_alloc | apply Kd.V_drewN | apply Kd.V_drew)); exact HO_11.out) (rB ho0) hb); have n1_ := aM (Kd.V_elder' (by (with_reducible repeat (first | apply Kd.V_alloc | apply Kd.V_drewN | apply Kd.V_drew)); exact HO_192000.out) (rB ho0) hb); have n2_ := aM (Kd.N_elder' (by (with_reducible repeat (first | apply Kd.N_alloc | apply Kd.N_drewN | apply Kd.N_drew)); exact HO_192002.out) (rB ho0) hb); have n3_ := aM (rO (by apply_rules [HO196.out, rN, rD]) hb); have n4_ := aM (Kd.V_elder' (by (with_reducible repeat (first | apply Kd.V_alloc | apply Kd.V_drewN | apply Kd.V_drew)); exact HL197_0.out) (rB ho0) hb); have n5_ := aM (rO (by apply_rules [HO200.out, rN, rD]) hb); have n6_ := aM (rE (by apply_rules [HO203.out, rN, rD]) (rB ho0) hb); have n7_ := aM (Kd.R_lower (rW (Kd.R_newM (M := fun k_ => (w.heap.size ≤ k_)) ho0 (bZ (by repeat (first | (with_reducible first | exact HB.out | apply bA | apply pN | apply bD | refine bE ?_ GE191.out | refine bE ?_ GE193.out) | exact HB.out))) (fun k_ h_ => h_)) (rL (by apply_rules [HO203.out, rN, rD]))) (bZ (by repeat (first | (with_reducible first | exact HB.out | apply bA | apply pN | apply bD | refine bE ?_ GE191.out | refine bE ?_ GE193.out) | exact HB.out)))); have n8_ := aM (blk_below (g := gb191) (o := .cells #[.slice (some ad192) l0.length c0, .slice Ao19 y194.length co19, .slice (some ad197) x192002_1.length co24] 51 (0, 0)) (by apply_rules [BK191.out, kN, kD, kA]) hb); have n9_ := aM (blk_below (g := gb193) (o := .cells #[.int .i64 ((rd_T40 l0 x13_1).f0), .int .i64 ((rd_T40 l0 x13_1).f1), .int .i64 ((rd_T40 l0 x13_1).f2)] 40 (0, 0)) (by apply_rules [BK193.out, kN, kD, kA]) hb); have n10_ := aM (Kd.C_below (by repeat (first | (with_reducible exact HR197_0.out) | (with_reducible refine cA ?_ _) | (with_reducible refine cN ?_ _) | (with_reducible refine cD ?_) | exact HR197_0.out)) hb); have n11_ := aM (bS (by repeat (first | (with_reducible first | exact HB.out | apply bA | apply pN | apply bD | refine bE ?_ GE191.out | refine bE ?_ GE193.out) | exact HB.out)) hb); clear HO_11 HO_192000 HO_192002 HO196 HL197_0 HO200 HO203 BK191 BK193 HR197_0 HB; have HO_11 := n0_; have HO_192000 := n1_; have HO_192002 := n2_; have HO196 := n3_; have HL197_0 := n4_; have HO200 := n5_; have HO203 := n6_; have HO206 := n7_; have BK191 := n8_; have BK193 := n9_; have HR197_0 := n10_; have HB := n11_; clear n0_ n1_ n2_ n3_ n4_ n5_ n6_ n7_ n8_ n9_ n10_ n11_
    (try clear hb)
    (try clear hb2)
    (try clear hk)
    (try clear hi)
    (try clear ho0)
    obtain ⟨Ao32, co32, eo32⟩ := Kd.R_slice HO206.out
    (first | subst eo32 | (injection eo32 with f1_ f2_ f3_; have f4_ := f1_.symm; have f5_ := f3_.symm; clear f1_ f2_ f3_; subst f4_; subst f5_))
    refine hK.out _ _ ⟨(kC BK191.out 0).trans rfl, (kC BK191.out 1).trans rfl, (kC BK191.out 2).trans rfl, (kC BK193.out 0).trans rfl, (kC BK193.out 1).trans rfl, (kC BK193.out 2).trans rfl, HS6_⟩ (fun hHeld => ?_)
    clear hK K
    refine norm_ (a' := ?_) ?_ ?_
    rotate_left
    ·show Act.put _ (some 53) _ = _
     simp only [Act.put, sI, sZ, sS, i64_w]
     rfl
    refine one_ (i := 22) (N := some 54) #[true, true, true, true, true, true, true, true, true, true, true, true, true, true, true, true, true, true, true, true, true, true, true, false, false, false, false] rfl rfl (one_of HT_.out (by kernel_rfl)) (by decide) (fun K hK => ?_)
    refine value_ (w1 := ?_) (v := ?_) (by rfl) rfl ?_ ?_
    rotate_left 2
    ·go_simp
     constructor
     ·rfl
     ·rfl
    refine hK.out _ _ ⟨(kC (kA BK191.out _) 0).trans rfl, (kC (kA BK191.out _) 1).trans rfl, (kC (kA BK191.out _) 2).trans rfl, (kC (kA BK193.out _) 0).trans rfl, (kC (kA BK193.out _) 1).trans rfl, (kC (kA BK193.out _) 2).trans rfl, (World.cell?_alloc_lt _ _ _ (wL _ _ (hHeld.2.2.2.2.2.2))).trans (hHeld.2.2.2.2.2.2)⟩ (fun hHeld => ?_)
    clear hK K
    refine norm_ (a' := ?_) ?_ ?_
    rotate_left
    ·show Act.put _ (some 54) _ = _
     simp only [Act.put, sI, sZ, sS, i64_w]
     rfl
    refine last_ (i := 23) (N := some 55) #[true, true, true, true, true, true, true, true, true, true, true, true, true, true, true, true, true, true, true, true, true, true, true, true, false, false, false] rfl rfl (one_of HT_.out (by kernel_rfl)) (by decide) (fun K hK => ?_)
    refine Kd.N_append_step (Kd.slice 65 (Kd.int .u64)) (w0 := w) w.heap.size (by rfl) (.tmp 36) (.tmp 54) 49 53 (.slice none 0 0) 24 rfl Try.underlying49 info53 rfl (by decide) (by omega) (.slice (some ad197) x192002_1.length co24) x192002_1 t204 [.slice Ao32 t204.length co32] (fun k_ => (P0_ k_ ∨ w.heap.size ≤ k_) ∧ some k_ ≠ (.slice Ao19 y194.length co19 : Value).ownBlock ∧ some k_ ≠ (.slice Ao27 y198.length co27 : Value).ownBlock ∧ some k_ ≠ (.slice Ao29 t201.length co29 : Value).ownBlock ∧ k_ ≠ gb191 ∧ k_ ≠ gb193) (fun k_ => ((fun k_ => (P0_ k_ ∨ w.heap.size ≤ k_) ∧ some k_ ≠ (.slice Ao19 y194.length co19 : Value).ownBlock ∧ some k_ ≠ (.slice Ao27 y198.length co27 : Value).ownBlock ∧ some k_ ≠ (.slice Ao29 t201.length co29 : Value).ownBlock ∧ k_ ≠ gb191 ∧ k_ ≠ gb193)) k_ ∧ some k_ ≠ (.slice (some ad197) x192002_1.length co24 : Value).ownBlock) rfl rfl ?aP (fun _ hk => hk) ?aF ?aO ?aB ?aS ?aL ?_
    (case aP => exact (Kd.FK_slice_mk (rS (Kd.R_mono (ok' := (fun k_ => ((fun k_ => (P0_ k_ ∨ w.heap.size ≤ k_) ∧ some k_ ≠ (.slice Ao19 y194.length co19 : Value).ownBlock ∧ some k_ ≠ (.slice Ao27 y198.length co27 : Value).ownBlock ∧ some k_ ≠ (.slice Ao29 t201.length co29 : Value).ownBlock ∧ k_ ≠ gb191 ∧ k_ ≠ gb193)) k_ ∧ some k_ ≠ (.slice (some ad197) x192002_1.length co24 : Value).ownBlock)) (Kd.R_types (Kd.R_types (Kd.R_apart' (Kd.R_apart' (Kd.R_apart' (HO206.out) (Kd.R_typed HO196.out) (by decide)) (Kd.R_typed HO200.out) (by decide)) (Kd.N_typed HO_192002.out) (by decide)) BK191.out (by decide)) BK193.out (by decide)) (fun k_ hk => ⟨⟨(.inr (hk.1.1.1.1.1.1.1)), ⟨hk.1.1.1.1.2, ⟨hk.1.1.1.2, ⟨hk.1.1.1.1.1.2, ⟨hk.1.2, hk.2⟩⟩⟩⟩⟩, hk.1.1.2⟩))).2.1 (Kd.R_F (Kd.R_mono (ok' := (fun k_ => ((fun k_ => (P0_ k_ ∨ w.heap.size ≤ k_) ∧ some k_ ≠ (.slice Ao19 y194.length co19 : Value).ownBlock ∧ some k_ ≠ (.slice Ao27 y198.length co27 : Value).ownBlock ∧ some k_ ≠ (.slice Ao29 t201.length co29 : Value).ownBlock ∧ k_ ≠ gb191 ∧ k_ ≠ gb193)) k_ ∧ some k_ ≠ (.slice (some ad197) x192002_1.length co24 : Value).ownBlock)) (Kd.R_types (Kd.R_types (Kd.R_apart' (Kd.R_apart' (Kd.R_apart' (HO206.out) (Kd.R_typed HO196.out) (by decide)) (Kd.R_typed HO200.out) (by decide)) (Kd.N_typed HO_192002.out) (by decide)) BK191.out (by decide)) BK193.out (by decide)) (fun k_ hk => ⟨⟨(.inr (hk.1.1.1.1.1.1.1)), ⟨hk.1.1.1.1.2, ⟨hk.1.1.1.2, ⟨hk.1.1.1.1.1.2, ⟨hk.1.2, hk.2⟩⟩⟩⟩⟩, hk.1.1.2⟩)))))
    (case aB => exact (by repeat (first | (with_reducible first | exact HB.out | apply bA | apply pN | apply bD | refine bE ?_ GE191.out | refine bE ?_ GE193.out) | exact HB.out)))
    (case aF => exact (fun k_ hk => ⟨(.inr (Nat.le_trans (bZ (by repeat (first | (with_reducible first | exact HB.out | apply bA | apply pN | apply bD | refine bE ?_ GE191.out | refine bE ?_ GE193.out) | exact HB.out))) hk)), Kd.fresh' (rL (by apply_rules [HO196.out, rN, rD])) k_ hk, Kd.fresh' (rL (by apply_rules [HO200.out, rN, rD])) k_ hk, Kd.fresh' (rL (by apply_rules [HO203.out, rN, rD])) k_ hk, Kd.freshB (g := gb191) (o := .cells #[.slice (some ad192) l0.length c0, .slice Ao19 y194.length co19, .slice (some ad197) x192002_1.length co24] 51 (0, 0)) (by apply_rules [BK191.out, kN, kD, kA]) k_ hk, Kd.freshB (g := gb193) (o := .cells #[.int .i64 ((rd_T40 l0 x13_1).f0), .int .i64 ((rd_T40 l0 x13_1).f1), .int .i64 ((rd_T40 l0 x13_1).f2)] 40 (0, 0)) (by apply_rules [BK193.out, kN, kD, kA]) k_ hk⟩))
    (case aO => exact (by (with_reducible repeat (first | apply Kd.N_alloc | apply Kd.N_drewN | apply Kd.N_drew)); exact Kd.N_mono HO_192002.out (fun _ hk => ⟨hk.1.1.1.1, ⟨hk.1.1.1.2.1, ⟨hk.1.1.2, ⟨hk.1.2, ⟨hk.1.1.1.2.2.1, hk.1.1.1.2.2.2⟩⟩⟩⟩⟩)))
    (case aS => exact (bZ (by repeat (first | (with_reducible first | exact HB.out | apply bA | apply pN | apply bD | refine bE ?_ GE191.out | refine bE ?_ GE193.out) | exact HB.out))))
    (case aL => have := LMc13.out; omega)
    intro v208 w31 ho hb hg hat
    rw [← Ny207.out] at ho
    have n0_ := aM (Kd.V_afterv (ok := (fun k_ => (P0_ k_ ∨ w.heap.size ≤ k_) ∧ some k_ ≠ (.slice Ao19 y194.length co19 : Value).ownBlock ∧ some k_ ≠ (.slice Ao27 y198.length co27 : Value).ownBlock ∧ some k_ ≠ (.slice Ao29 t201.length co29 : Value).ownBlock ∧ some k_ ≠ (.slice Ao32 t204.length co32 : Value).ownBlock ∧ k_ ≠ gb191 ∧ k_ ≠ gb193)) (by (with_reducible repeat (first | apply Kd.V_alloc | apply Kd.V_drewN | apply Kd.V_drew)); exact Kd.V_mono HO_11.out (fun _ hk => ⟨⟨hk.1.1.1.1, ⟨hk.1.1.1.2.2.1, ⟨hk.1.1.2, ⟨hk.1.2, ⟨hk.2, ⟨hk.1.1.1.2.2.2.1, hk.1.1.1.2.2.2.2⟩⟩⟩⟩⟩⟩, hk.1.1.1.2.1⟩)) hg hat); have n1_ := aM (Kd.V_afterv (ok := (fun k_ => (P0_ k_ ∨ w.heap.size ≤ k_) ∧ some k_ ≠ (.slice Ao19 y194.length co19 : Value).ownBlock ∧ some k_ ≠ (.slice Ao27 y198.length co27 : Value).ownBlock ∧ some k_ ≠ (.slice Ao29 t201.length co29 : Value).ownBlock ∧ some k_ ≠ (.slice Ao32 t204.length co32 : Value).ownBlock ∧ k_ ≠ gb191 ∧ k_ ≠ gb193)) (by (with_reducible repeat (first | apply Kd.V_alloc | apply Kd.V_drewN | apply Kd.V_drew)); exact Kd.V_mono HO_192000.out (fun _ hk => ⟨⟨hk.1.1.1.1, ⟨hk.1.1.1.2.2.1, ⟨hk.1.1.2, ⟨hk.1.2, ⟨hk.2, ⟨hk.1.1.1.2.2.2.1, hk.1.1.1.2.2.2.2⟩⟩⟩⟩⟩⟩, hk.1.1.1.2.1⟩)) hg hat); have n2_ := aM (blk_grown (g := gb191) (o := .cells #[.slice (some ad192) l0.length c0, .slice Ao19 y194.length co19, .slice (some ad197) x192002_1.length co24] 51 (0, 0)) (by apply_rules [BK191.out, kN, kD, kA]) hg (Kd.N_ne HO_192002.out BK191.out (by decide))); have n3_ := aM (blk_grown (g := gb193) (o := .cells #[.int .i64 ((rd_T40 l0 x13_1).f0), .int .i64 ((rd_T40 l0 x13_1).f1), .int .i64 ((rd_T40 l0 x13_1).f2)] 40 (0, 0)) (by apply_rules [BK193.out, kN, kD, kA]) hg (Kd.N_ne HO_192002.out BK193.out (by decide))); have n4_ := aM (Kd.R_over' (by apply_rules [HO196.out, rN, rD]) (Kd.N_typed (by (with_reducible repeat (first | apply Kd.N_alloc | apply Kd.N_drewN | apply Kd.N_drew)); exact HO_192002.out)) (by decide) hg); have n5_ := aM (Kd.V_afterv (ok := (fun k_ => (P0_ k_ ∨ w.heap.size ≤ k_) ∧ some k_ ≠ (.slice Ao19 y194.length co19 : Value).ownBlock ∧ some k_ ≠ (.slice Ao27 y198.length co27 : Value).ownBlock ∧ some k_ ≠ (.slice Ao29 t201.length co29 : Value).ownBlock ∧ some k_ ≠ (.slice Ao32 t204.length co32 : Value).ownBlock ∧ k_ ≠ gb191 ∧ k_ ≠ gb193)) (by (with_reducible repeat (first | apply Kd.V_alloc | apply Kd.V_drewN | apply Kd.V_drew)); exact Kd.V_mono HL197_0.out (fun _ hk => ⟨⟨hk.1.1.1.1.1, ⟨hk.1.1.1.1.2.1, ⟨hk.1.1.2, ⟨hk.1.2, ⟨hk.2, ⟨hk.1.1.1.1.2.2.1, hk.1.1.1.1.2.2.2⟩⟩⟩⟩⟩⟩, hk.1.1.1.2⟩)) hg hat); have n6_ := aM (Kd.R_over' (by apply_rules [HO200.out, rN, rD]) (Kd.N_typed (by (with_reducible repeat (first | apply Kd.N_alloc | apply Kd.N_drewN | apply Kd.N_drew)); exact HO_192002.out)) (by decide) hg); have n7_ := aM (Kd.R_over' (by apply_rules [HO203.out, rN, rD]) (Kd.N_typed (by (with_reducible repeat (first | apply Kd.N_alloc | apply Kd.N_drewN | apply Kd.N_drew)); exact HO_192002.out)) (by decide) hg); have n8_ := aM (hb); have n9_ := aM (ho); clear HO_11 HO_192000 BK191 BK193 HO196 HL197_0 HO200 HO203 HB HO_192002 HO206; have HO_11 := n0_; have HO_192000 := n1_; have BK191 := n2_; have BK193 := n3_; have HO196 := n4_; have HL197_0 := n5_; have HO200 := n6_; have HO203 := n7_; have HB := n8_; have HO209 := n9_; clear n0_ n1_ n2_ n3_ n4_ n5_ n6_ n7_ n8_ n9_ ho hb hg hat
    obtain ⟨Ao33, co33, eo33⟩ := Kd.N_slice HO209.out
    (first | subst eo33 | (injection eo33 with f1_ f2_ f3_; have f4_ := f1_.symm; have f5_ := f3_.symm; clear f1_ f2_ f3_; subst f4_; subst f5_))
    refine hK.out _ _ ?_
    clear hK K
    refine norm_ (a' := ?_) ?_ ?_
    rotate_left
    ·show Act.put _ (some 55) _ = _
     simp only [Act.put, sI, sZ, sS, i64_w]
     rfl
    refine pure_ (i := 24) (N := some 56) (v := ?_) (a' := ?_) #[true, true, true, true, true, true, true, true, true, true, true, true, true, true, true, true, true, true, true, true, true, true, true, true, true, false, false] rfl rfl (any_of HT_.out (by kernel_rfl)) (fun _ _ _ h => h) (Or.inl ⟨by rfl, ?_⟩) ?_ ?_
    rotate_left
    ·intro w'
     go_simp
     with_reducible rfl
    rotate_left
    ·simp only [Act.put, sI, sZ, sS, i64_w]
     rfl
    refine pure_ (i := 25) (N := some 57) (v := ?_) (a' := ?_) #[true, true, true, true, true, true, true, true, true, true, true, true, true, true, true, true, true, true, true, true, true, true, true, true, true, true, false] rfl rfl (any_of HT_.out (by kernel_rfl)) (fun _ _ _ h => h) (Or.inl ⟨by rfl, ?_⟩) ?_ ?_
    rotate_left
    ·intro w'
     go_simp
     with_reducible rfl
    rotate_left
    ·simp only [Act.put, sI, sZ, sS, i64_w]
     rfl
    refine last_ (i := 26) (N := none) #[true, true, true, true, true, true, true, true, true, true, true, true, true, true, true, true, true, true, true, true, true, true, true, true, true, true, true] rfl rfl (one_of HT_.out (by kernel_rfl)) (by decide) (fun K hK => ?_)
    have hs34 : w31.cell? ⟨gb191, 2, none⟩ = some (.slice (some ad197) x192002_1.length co24) := (kC BK191.out 2).trans rfl
    have hfs34 := blk_frozen BK191.out 2
    have hns34_1 := NB193_191.out
    have hms34_1 := NB191_193.out
    refine skip_ (w1 := ?_) (by rfl) rfl ?_ ?_
    rotate_left
    ·go_simp
     rfl
    refine hK.out _ _ ?_
    clear hK K
    refine done_ (done_of HT_.out (by kernel_rfl)) ?_
    try go_wp2
    go_roundg k1
    case measure => have := HK1.out; omega
    case rel => exact ⟨(wrap64 (x4_1 + ((rd_T40 l0 x13_1).f0))), (wrap64 (x13_1 + 1)), (y194), (y207), (.slice Ao19 y194.length co19), (.slice Ao33 y207.length co33), (by first | rfl | (simp; done) | (simp [*]; done)), (by first | rfl | (simp; done) | (simp [*]; done)), H', ⟨by have := HK1.out; omega⟩, ⟨by (with_reducible repeat (first | apply Kd.V_alloc | apply Kd.V_drewN | apply Kd.V_drew)); exact Kd.V_mono (Kd.V_far (p := ⟨gb191, 2, none⟩) (Kd.V_mono HO_11.out (fun k_ hk => (⟨hk, hk.1.2.2.2.2.2.1⟩ : _ ∧ k_ ≠ gb191))) (fun _ hk => hk.2) (.slice Ao33 y207.length co33)) (fun _ hk => ⟨hk.1.1.1, ⟨hk.1.1.2.1, ⟨hk.1.2, hk.1.1.2.2.2.2.2.1⟩⟩⟩)⟩, ⟨by (with_reducible repeat (first | apply Kd.V_alloc | apply Kd.V_drewN | apply Kd.V_drew)); exact Kd.V_mono (Kd.V_far (p := ⟨gb191, 2, none⟩) (Kd.V_mono HO_192000.out (fun k_ hk => (⟨hk, hk.1.2.2.2.2.2.1⟩ : _ ∧ k_ ≠ gb191))) (fun _ hk => hk.2) (.slice Ao33 y207.length co33)) (fun _ hk => ⟨hk.1.1.1, ⟨hk.1.1.2.1, ⟨hk.1.2, hk.1.1.2.2.2.2.2.1⟩⟩⟩)⟩, ⟨by (with_reducible repeat (first | apply rN | apply rD)); exact Kd.R_mono (Kd.R_far (p := ⟨gb191, 2, none⟩) (Kd.R_types HO196.out BK191.out (by decide)) (fun _ hk => hk.2) (.slice Ao33 y207.length co33)) (fun _ hk => hk.1.1)⟩, ⟨by (with_reducible repeat (first | apply Kd.N_alloc | apply Kd.N_drewN | apply Kd.N_drew)); exact Kd.N_mono (Kd.N_far (p := ⟨gb191, 2, none⟩) (Kd.N_mono HO209.out (fun k_ hk => (⟨hk, hk.2.2.2.2.1⟩ : _ ∧ k_ ≠ gb191))) (fun _ hk => hk.2) (.slice Ao33 y207.length co33)) (fun _ hk => ⟨hk.1.1, ⟨hk.1.2.1, hk.1.2.2.2.2.1⟩⟩)⟩, ⟨by (with_reducible repeat (first | refine kN ?_ _ | refine kD ?_ | refine kA ?_ _)); refine blk_put (cs := #[.slice (some ad192) l0.length c0, .slice Ao19 y194.length co19, .slice (some ad197) x192002_1.length co24]) ?_ 2 _ rfl; (with_reducible repeat (first | refine kN ?_ _ | refine kD ?_ | refine kA ?_ _)); exact BK191.out⟩, ⟨by repeat (first | (with_reducible first | exact HB.out | apply bA | apply pN | apply bD | refine bE ?_ GE191.out | refine bE ?_ GE193.out) | exact HB.out)⟩⟩
   ·rw [if_neg c6] at H
    have c6b0 : decide (x13_1 < (l0.length : Int)) = false := decide_eq_false c6
    clear c6
    obtain rfl := Option.some.inj H
    obtain ⟨Ao35, co35, eo35⟩ := Kd.N_slice HO_192002.out
    subst eo35
    obtain ⟨Ao36, co36, eo36⟩ := Kd.R_slice HO_192001.out
    subst eo36
    go_wp2
    go_ret
    exact ⟨(some ⟨gb191, 0, none⟩), by first | rfl | (simp [errW_none, errW_some] <;> rfl) | (simp [*, errW_none, errW_some] <;> rfl), Kd.V_mk (Nat.le_refl _) (F_of_blk (g := gb191) (e := 51) (cs := #[.slice A0 l0.length c0, .slice Ao36 x192001_1.length co36, .slice Ao35 x192002_1.length co35]) (x := (⟨l0, x192001_1, x192002_1⟩ : S51)) (by apply_rules [BK191.out, kN, kD, kA]) (.inr GW191.out) (show Kd.FK k51 _ _ (⟨l0, x192001_1, x192002_1⟩ : S51) #[.slice A0 l0.length c0, .slice Ao36 x192001_1.length co36, .slice Ao35 x192002_1.length co35].toList from k51_mkF _ _ (⟨l0, x192001_1, x192002_1⟩ : S51) (Kd.V_reads' HO_192000.out).2.1 (Kd.V_at (show Kd.V k40 40 _ w.heap.size (fun k_ => (P0_ k_ ∨ w.heap.size ≤ k_)) (.slice A0 l0.length c0) l0 from by (with_reducible repeat (first | apply Kd.V_alloc | apply Kd.V_drewN | apply Kd.V_drew)); exact Kd.V_mono HO_192000.out (fun _ hk => hk.1))).2.2 (rS HO_192001.out).2.1 (Kd.V_at (show Kd.V (Kd.int .i64) 3 _ w.heap.size (fun k_ => (P0_ k_ ∨ w.heap.size ≤ k_)) (.slice Ao36 x192001_1.length co36) x192001_1 from Kd.V_mono (Kd.R_V (by apply_rules [HO_192001.out, rN, rD])) (fun k_ hk => by first | exact ⟨(.inr (hk.1)), hk.2⟩ | exact (.inr (hk))))).2.2 (Kd.N_reads' HO_192002.out).2.1 (Kd.V_at (show Kd.V (Kd.slice 65 (Kd.int .u64)) 53 _ w.heap.size (fun k_ => (P0_ k_ ∨ w.heap.size ≤ k_)) (.slice Ao35 x192002_1.length co35) x192002_1 from Kd.N_V (by (with_reducible repeat (first | apply Kd.N_alloc | apply Kd.N_drewN | apply Kd.N_drew)); exact Kd.N_mono HO_192002.out (fun _ hk => hk.1)))).2.2)), by repeat (first | (with_reducible first | exact HB.out | apply bA | apply pN | apply bD | refine bE ?_ GE191.out) | exact HB.out)⟩
def load_stageAt.l0 : Nat → List (S40) → Int → Int → Option (Int × Int)
 | 0, _, _, _ => none
 | k + 1, x0, x1, x4 => if x4 < (wrap64 ((x0.length : Int) - 1)) then (if 0 ≤ x4 then (if x4 < (x0.length : Int) then (if x1 ≥ ((rd_T40 x0 x4).f0) then (load_stageAt.l0 k x0 (wrap64 (x1 - ((rd_T40 x0 x4).f0))) (wrap64 (x4 + 1))) else (some (x4, x1))) else (none)) else (none)) else (some (x4, x1))
def load_stageAt.f (k : Nat) (l0 : List (S40)) (a1 : Int) : Option (Int × Int) := load_stageAt.l0 k l0 a1 0
theorem load_stageAt.mono_l : ∀ k, (∀ y0 y1 y2, LeO (load_stageAt.l0 k y0 y1 y2) (load_stageAt.l0 (k + 1) y0 y1 y2))
 | 0 => fun _ _ _ r h => by simp [load_stageAt.l0] at h
 | k + 1 => by
  have ih0 := load_stageAt.mono_l k
  ·intro y0 y1 y2
   unfold load_stageAt.l0
   repeat' first
   | (with_reducible exact ih0 _ _ _)
   | (with_reducible exact LeO.refl _)
   | (with_reducible exact LeO.none _)
   | (with_reducible refine LeO.ite ?_ ?_)
   | (with_reducible refine LeO.bind ?_ (fun _ => ?_))
theorem load_stageAt.mono : ∀ a0 a1 k, LeO (load_stageAt.f k a0 a1) (load_stageAt.f (k + 1) a0 a1) := by
 intro a0 a1 k
 have ih0 := load_stageAt.mono_l k
 unfold load_stageAt.f
 repeat' first
   | (with_reducible exact ih0 _ _ _)
   | (with_reducible exact LeO.refl _)
   | (with_reducible exact LeO.none _)
   | (with_reducible refine LeO.ite ?_ ?_)
   | (with_reducible refine LeO.bind ?_ (fun _ => ?_))
theorem load_stageAt.calls (k : Nat) (A0 : Option Addr) (c0 : Nat) (l0 : List (S40)) (a1 : Int) (r1 : Int) (r2 : Int) (w : World) (hr0 : Kd.C k40 w A0 l0.length l0) (hc0 : l0.length ≤ c0) (h : load_stageAt.f k l0 a1 = some (r1, r2)) :
  Calls Try.prog 31 #[.slice A0 l0.length c0, .int .i64 a1] w fun e w' => e = .returned (.tuple #[.int .i64 r1, .int .i64 r2]) ∧ Drawn0 w w' := by
 have HR0 := aM hr0
 have HC0 := aM hc0
 clear hr0 hc0
 have H : (load_stageAt.l0 k l0 a1 0) = some (r1, r2) := h
 clear h; have H' := aM H; clear H
 go_enter Try.func31, Try.ntmps31
 go_wp2
 go_loopg [1, 4] k (fun kq v1 v4 w' => ∃ (x1_1 : Int) (x4_1 : Int), v1 = .int .i64 x1_1 ∧ v4 = .int .i64 x4_1 ∧ Aside0 (load_stageAt.l0 kq l0 x1_1 x4_1 = some (r1, r2)) ∧ Aside0 (kq ≤ k) ∧ Drawn0 w w')
 case atStart => exact ⟨(a1), (0), (by first | rfl | (simp; done) | (simp [*]; done)), (by first | rfl | (simp; done) | (simp [*]; done)), H', ⟨Nat.le_refl _⟩, by repeat (first | exact Drawn0.refl _ | apply Drawn0.step)⟩
 case round =>
  clear H'
  try clear p2
  obtain ⟨x1_1, x4_1, rfl, rfl, HA, HK1, ⟨m1, rfl⟩⟩ := hrel
  cases gk with
  | zero => exact absurd HA.out (by simp [load_stageAt.l0])
  | succ k1 =>
   have H := HA.out
   clear HA
   simp only [load_stageAt.l0] at H
   by_cases c3 : x4_1 < (wrap64 ((l0.length : Int) - 1))
   ·rw [if_pos c3] at H
    have c3b0 : decide (x4_1 < (wrap64 ((l0.length : Int) - 1))) = true := dT c3
    clear c3
    by_cases c4 : 0 ≤ x4_1
    rotate_left
    ·rw [if_neg c4] at H; cases H
    rw [if_pos c4] at H
    have c4b0 : decide (0 ≤ x4_1) = true := dT c4
    clear c4
    by_cases c5 : x4_1 < (l0.length : Int)
    rotate_left
    ·rw [if_neg c5] at H; cases H
    rw [if_pos c5] at H
    have c5b0 : decide (x4_1 < (l0.length : Int)) = true := dT c5
    clear c5
    by_cases c6 : x1_1 ≥ ((rd_T40 l0 x4_1).f0)
    ·rw [if_pos c6] at H
     have c6b0 : decide (((rd_T40 l0 x4_1).f0) ≤ x1_1) = true := dT c6
     clear c6; have H' := aM H; clear H
     have p210 : 0 ≤ (x4_1 : Int) := oD (by first | (with_reducible assumption) | assumption)
     have q210 : x4_1 < (l0.length : Int) := oD (by first | (with_reducible assumption) | assumption)
     obtain ⟨ad210, e210, hx210_0, hx210_1, hx210_2⟩ := at_T40 HR0.out x4_1 p210 q210
     cases e210
     replace p210 := eq_true p210
     replace q210 := eq_true q210
     have p211 : 0 ≤ (x4_1 : Int) := oD (by first | (with_reducible assumption) | assumption)
     have q211 : x4_1 < (l0.length : Int) := oD (by first | (with_reducible assumption) | assumption)
     obtain ⟨ad211, e211, hx211_0, hx211_1, hx211_2⟩ := at_T40 HR0.out x4_1 p211 q211
     obtain rfl : ad210 = ad211 := (by injection e211)
     replace p211 := eq_true p211
     replace q211 := eq_true q211
     go_wp2
     go_roundg k1
     case measure => have := HK1.out; omega
     case rel => exact ⟨(wrap64 (x1_1 - ((rd_T40 l0 x4_1).f0))), (wrap64 (x4_1 + 1)), (by first | rfl | (simp; done) | (simp [*]; done)), (by first | rfl | (simp; done) | (simp [*]; done)), H', ⟨by have := HK1.out; omega⟩, by repeat (first | exact Drawn0.refl _ | apply Drawn0.step)⟩
    ·rw [if_neg c6] at H
     have c6b0 : decide (((rd_T40 l0 x4_1).f0) ≤ x1_1) = false := decide_eq_false c6
     clear c6
     simp only [Option.some.injEq, Prod.mk.injEq] at H
     obtain ⟨rfl, rfl⟩ := H
     have p210 : 0 ≤ (x4_1 : Int) := oD (by first | (with_reducible assumption) | assumption)
     have q210 : x4_1 < (l0.length : Int) := oD (by first | (with_reducible assumption) | assumption)
     obtain ⟨ad210, e210, hx210_0, hx210_1, hx210_2⟩ := at_T40 HR0.out x4_1 p210 q210
     cases e210
     replace p210 := eq_true p210
     replace q210 := eq_true q210
     go_wp2
     go_ret2
     exact ⟨by first | rfl | (simp; done) | (simp [*]; done), by repeat (first | exact Drawn0.refl _ | apply Drawn0.step)⟩
   ·rw [if_neg c3] at H
    have c3b0 : decide (x4_1 < (wrap64 ((l0.length : Int) - 1))) = false := decide_eq_false c3
    clear c3
    simp only [Option.some.injEq, Prod.mk.injEq] at H
    obtain ⟨rfl, rfl⟩ := H
    go_wp2
    go_ret2
    exact ⟨by first | rfl | (simp; done) | (simp [*]; done), by repeat (first | exact Drawn0.refl _ | apply Drawn0.step)⟩
end Go.Proofs.Ytaoekkikpceccaa.QLoadAdmitKeepsTheLimit
