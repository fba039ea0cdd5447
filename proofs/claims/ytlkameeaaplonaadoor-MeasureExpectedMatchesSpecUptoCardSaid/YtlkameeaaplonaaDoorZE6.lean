/- The texts of the claim, part 6: each says in its own first line what is proved and its conditions. -/
import Derived.Deep.RegionHeld3
import Derived.Test.YtlkameeaaplonaaDoorQMeasureExpectedMatchesSpecx0
import Derived.Test.YtlkameeaaplonaaDoorQMeasureExpectedMatchesSpecx1
import Derived.Test.YtlkameeaaplonaaDoorQMeasureExpectedMatchesSpecx2
import Derived.Test.YtlkameeaaplonaaDoorQMeasureExpectedMatchesSpecx3
import Derived.Test.YtlkameeaaplonaaDoorQMeasureExpectedMatchesSpecx4
import Derived.Test.YtlkameeaaplonaaDoorQMeasureExpectedMatchesSpecx5
import Derived.Test.YtlkameeaaplonaaDoorTie
import Derived.Test.YtlkameeaaplonaaDoorCards
import Derived.Lib.LaidTab
import Derived.Lib.SmallJoins
import Derived.Lib.ItoaNum
import Derived.Lib.AppendIntMem
import Derived.Stop.LaidErr
import Derived.Deep.Slices
import Derived.WalkKit
import Derived.ProofKit
import Derived.OpenShut
import Derived.ShutString
import Derived.ChangeOld
import Derived.Below
import Derived.SizedLaws
import Derived.ChangeSame
import Derived.SevenTiedAt
import Derived.Carry
import Derived.LaidMore
import Derived.LaidLaws
import Derived.LaidHandle
import Derived.Stop.Joined
import Derived.Deep.DeepHandedRow
import Derived.Deep.DeepWitnessRowRef
import Derived.Test.YtlkameeaaplonaaDoorZE1
import Derived.Test.YtlkameeaaplonaaDoorZE2
import Derived.Test.YtlkameeaaplonaaDoorZE3
import Derived.Test.YtlkameeaaplonaaDoorZE4
import Derived.Test.YtlkameeaaplonaaDoorZE5
/- Merge and Minus of measure with their checks. Conditions: as each theorem says. -/
namespace Go.Proofs.YtlkameeaaplonaaDoor
open Go.Shelf Go.RowKit Go.Maps Go.Proofs.YtlkameeaaplonaaDoor.QMeasureExpectedMatchesSpec
open Go.Proofs.YtlkameeaaplonaaDoorW.PrintWords Go.Proofs.YtlkameeaaplonaaDoorW.PrintLast Go.Proofs.YtlkameeaaplonaaDoorW.PrintMore
set_option linter.unusedVariables false
set_option maxRecDepth 100000 in
set_option maxHeartbeats 4000000 in
theorem merge17f (b1 b2 f : Int) (A A2 : Option Addr) (c c2 k0 : Nat) (l l2 : List S44) (w : World) (hC : Kd.C k44 w A l.length l) (hc : l.length ≤ c) (hC2 : Kd.C k44 w A2 l2.length l2) (hc2 : l2.length ≤ c2)
    (hchk : measure_checkBoth.f k0 b1 l b2 l2 = some f) (d0 : (f != 0) = true) :
    Ans 17 #[.agg #[.int .i64 b1, .slice A l.length c], .agg #[.int .i64 b2, .slice A2 l2.length c2]] w (0, [], f) := by
  obtain ⟨W0, hW0⟩ : ∃ W0, ((w.alloc (.cells #[.int .i64 b1, .slice A l.length c] 25)).alloc (.cells #[.int .i64 b2, .slice A2 l2.length c2] 25)).alloc (.cells #[.int .i64 0, .slice none 0 0] 25) = W0 := ⟨_, rfl⟩
  have hI : In3 w W0 b1 b2 A A2 l.length c l2.length c2 := by rw [← hW0]; exact in3 w b1 b2 A A2 l.length c l2.length c2
  have hcb := measure_checkBoth.calls k0 b1 A c l b2 A2 c2 l2 f W0 (Kd.C_below hC hI.below) hc (Kd.C_below hC2 hI.below) hc2 hchk
  obtain ⟨⟨f0, f1⟩, ⟨f2, f3⟩, -⟩ := hI.fr (Below.refl _ _)
  clear hchk
  go_enter Tryd.func17, Tryd.ntmps17
  go_wp2_with (first
    | (go_at_call 43; refine hcb.mono ?_; clear hcb f0 f1 f2 f3; rintro e w1 ⟨rfl, hB1⟩; obtain ⟨⟨f0, f1⟩, ⟨f2, f3⟩, -⟩ := hI.fr hB1; have HF := Aside0.mk (hI.fin hB1); obtain ⟨⟨⟨g0, g1⟩, g2, g3⟩, -⟩ := hI.fin hB1)
    | go_in)
  (try simp only [Exit.inBlock, Exit.then])
  refine bodyPost_ret (results_ct rfl _ _ (w.heap.size + 2) 25 #[.int .i64 0, .slice none 0 0] (0, 0) _ rfl (HF.out.2.1 _ _ _ _) Tryd.underlying25 rfl (by kernel_rfl)) rfl ?_
  exact ⟨none, 0, rfl, Nat.le_refl _, C_nil _, HF.out.2.2 _ _⟩
set_option maxRecDepth 100000 in
set_option maxHeartbeats 4000000 in
theorem minus22f (b1 b2 f : Int) (A A2 : Option Addr) (c c2 k0 : Nat) (l l2 : List S44) (w : World) (hC : Kd.C k44 w A l.length l) (hc : l.length ≤ c) (hC2 : Kd.C k44 w A2 l2.length l2) (hc2 : l2.length ≤ c2)
    (hchk : measure_checkBoth.f k0 b1 l b2 l2 = some f) (d0 : (f != 0) = true) :
    Ans 22 #[.agg #[.int .i64 b1, .slice A l.length c], .agg #[.int .i64 b2, .slice A2 l2.length c2]] w (0, [], f) := by
  obtain ⟨W0, hW0⟩ : ∃ W0, ((w.alloc (.cells #[.int .i64 b1, .slice A l.length c] 25)).alloc (.cells #[.int .i64 b2, .slice A2 l2.length c2] 25)).alloc (.cells #[.int .i64 0, .slice none 0 0] 25) = W0 := ⟨_, rfl⟩
  have hI : In3 w W0 b1 b2 A A2 l.length c l2.length c2 := by rw [← hW0]; exact in3 w b1 b2 A A2 l.length c l2.length c2
  have hcb := measure_checkBoth.calls k0 b1 A c l b2 A2 c2 l2 f W0 (Kd.C_below hC hI.below) hc (Kd.C_below hC2 hI.below) hc2 hchk
  obtain ⟨⟨f0, f1⟩, ⟨f2, f3⟩, -⟩ := hI.fr (Below.refl _ _)
  clear hchk
  go_enter Tryd.func22, Tryd.ntmps22
  go_wp2_with (first
    | (go_at_call 43; refine hcb.mono ?_; clear hcb f0 f1 f2 f3; rintro e w1 ⟨rfl, hB1⟩; obtain ⟨⟨f0, f1⟩, ⟨f2, f3⟩, -⟩ := hI.fr hB1; have HF := Aside0.mk (hI.fin hB1); obtain ⟨⟨⟨g0, g1⟩, g2, g3⟩, -⟩ := hI.fin hB1)
    | go_in)
  (try simp only [Exit.inBlock, Exit.then])
  refine bodyPost_ret (results_ct rfl _ _ (w.heap.size + 2) 25 #[.int .i64 0, .slice none 0 0] (0, 0) _ rfl (HF.out.2.1 _ _ _ _) Tryd.underlying25 rfl (by kernel_rfl)) rfl ?_
  exact ⟨none, 0, rfl, Nat.le_refl _, C_nil _, HF.out.2.2 _ _⟩
set_option maxRecDepth 100000 in
set_option maxHeartbeats 4000000 in
/-- Merge hands on what merge hands back. -/
theorem merge17 (b : Int) (r : Res) (A A2 : Option Addr) (c c2 k0 : Nat) (l l2 : List S44) (w : World) (hC : Kd.C k44 w A l.length l) (hc : l.length ≤ c) (hC2 : Kd.C k44 w A2 l2.length l2) (hc2 : l2.length ≤ c2)
    (hchk : measure_checkBoth.f k0 b l b l2 = some 0)
    (hm : ∀ W, Below w.heap.size w W → AnsV 44 #[.agg #[.int .i64 b, .slice A l.length c], .agg #[.int .i64 b, .slice A2 l2.length c2]] W r) :
    Ans 17 #[.agg #[.int .i64 b, .slice A l.length c], .agg #[.int .i64 b, .slice A2 l2.length c2]] w r := by
  obtain ⟨r1, r2, r3⟩ := r
  obtain ⟨W0, hW0⟩ : ∃ W0, ((w.alloc (.cells #[.int .i64 b, .slice A l.length c] 25)).alloc (.cells #[.int .i64 b, .slice A2 l2.length c2] 25)).alloc (.cells #[.int .i64 0, .slice none 0 0] 25) = W0 := ⟨_, rfl⟩
  have hI : In3 w W0 b b A A2 l.length c l2.length c2 := by rw [← hW0]; exact in3 w b b A A2 l.length c l2.length c2
  have hcb := measure_checkBoth.calls k0 b A c l b A2 c2 l2 0 W0 (Kd.C_below hC hI.below) hc (Kd.C_below hC2 hI.below) hc2 hchk
  obtain ⟨⟨f0, f1⟩, ⟨f2, f3⟩, -⟩ := hI.fr (Below.refl _ _)
  clear hchk
  go_enter Tryd.func17, Tryd.ntmps17
  go_wp2_with (first
    | (go_at_call 44; refine (hm w1 (hI.up hB1)).mono ?_; rintro e w2 ⟨P, d, rfl, hVr, hB2⟩; have hB12 := hB1.trans (Below.mono hB2 hB1.size); have HF := Aside0.mk (hI.fin hB12); obtain ⟨⟨⟨g0, g1⟩, g2, g3⟩, -⟩ := hI.fin hB12)
    | (go_at_call 43; refine hcb.mono ?_; clear hcb f0 f1 f2 f3; rintro e w1 ⟨rfl, hB1⟩; obtain ⟨⟨f0, f1⟩, ⟨f2, f3⟩, -⟩ := hI.fr hB1)
    | go_in)
  (try simp only [Exit.inBlock, Exit.then])
  refine bodyPost_ret (results_ct rfl _ _ (w.heap.size + 2) 25 #[.int .i64 r1, .slice P r2.length d] (0, 0) _ rfl (HF.out.2.1 _ _ _ _) Tryd.underlying25 rfl (by kernel_rfl)) rfl ?_
  exact ⟨P, d, rfl, (Kd.V_reads' hVr).2.1, V_store hVr (by have := hI.size; have := hB1.size; omega) _ _, HF.out.2.2 _ _⟩
end Go.Proofs.YtlkameeaaplonaaDoor

/- Rows of ints of the call's own. Condition: none. -/
namespace Go.Proofs.YtlkameeaaplonaaDoor
open Go.Shelf Go.RowKit Go.Maps Go.Proofs.YtlkameeaaplonaaDoor.QMeasureExpectedMatchesSpec
open Go.Proofs.YtlkameeaaplonaaDoorW.PrintWords Go.Proofs.YtlkameeaaplonaaDoorW.PrintLast Go.Proofs.YtlkameeaaplonaaDoorW.PrintMore
set_option linter.unusedVariables false
theorem C_reads {w : World} {A : Option Addr} {xs : List Int} (h : Kd.C (Kd.int .i64) w A xs.length xs) : ReadsInt w .i64 A xs.length xs := by
  refine ⟨rfl, h.2.1, fun h0 => ?_⟩
  obtain ⟨ad, rfl, _⟩ := h.2.2 h0
  refine ⟨ad, rfl, fun j hj => ?_⟩
  obtain ⟨ad2, e, hc⟩ := C_cell h j hj
  obtain rfl : ad = ad2 := by injection e
  exact hc
theorem info3 : (Tryd.prog.info? 3).map (fun i => (i.zero, i.size, i.bytes)) = some (some (.int .i64 0), 1, 8) := by kernel_rfl
theorem reads_C {w : World} {A : Option Addr} {n : Nat} {xs : List Int} (h : ReadsInt w .i64 A n xs) : Kd.C (Kd.int .i64) w A n xs := by
  refine ⟨h.1, h.2.1, fun h0 => ?_⟩
  obtain ⟨ad, rfl, hc⟩ := h.2.2 h0
  refine ⟨ad, rfl, fun j p hp => ⟨[.int .i64 p], rfl, rfl, fun i u hu => ?_⟩⟩
  match i, hu with
  | 0, hu =>
    simp at hu
    subst hu
    have hj := (List.getElem?_eq_some_iff.1 hp).1
    have := hc j (by rw [← h.1]; exact hj)
    rw [List.getD_eq_getElem?_getD, hp] at this
    simpa [Kd.int, Kd.scalar] using this
theorem own_C {w : World} {base n : Nat} {A : Option Addr} {c : Nat} {xs : List Int} (h : w.ownsRow base 3 1 (.slice A n c) n (nums .i64 xs)) : Kd.C (Kd.int .i64) w A n xs := by
  obtain ⟨A', c', e, hr⟩ := own_reads h
  injection e with e1 e2 e3
  subst e1
  exact reads_C hr
theorem own_cap {w : World} {base n : Nat} {A : Option Addr} {c : Nat} {xs : List Value} (h : w.ownsRow base 3 1 (.slice A n c) n xs) : n ≤ c := by
  rcases h.2 with ⟨e, h0⟩ | ⟨g, cap, cur, e, h1, h2, h3, h4, h5⟩
  · omega
  · injection e with e1 e2 e3
    subst e3
    omega
theorem lit_own (w : World) (x : Int) : (w.alloc (.cells #[.int .i64 x] 3)).ownsRow w.heap.size 3 1 (.slice (some ⟨w.heap.size, 0, none⟩) 1 1) 1 (nums .i64 [x]) :=
  World.ownsRow_lit (base := w.heap.size) (e := 3) (size := 1) w #[.int .i64 x] 1 (Nat.le_refl _) (by decide) rfl
theorem lit_C (w : World) (x : Int) : Kd.C (Kd.int .i64) (w.alloc (.cells #[.int .i64 x] 3)) (some ⟨w.heap.size, 0, none⟩) 1 [x] := own_C (lit_own w x)
end Go.Proofs.YtlkameeaaplonaaDoor

/- counts answers true. Condition: none. -/
namespace Go.Proofs.YtlkameeaaplonaaDoor
open Go.Shelf Go.RowKit Go.Maps Go.Proofs.YtlkameeaaplonaaDoor.QMeasureExpectedMatchesSpec
open Go.Proofs.YtlkameeaaplonaaDoorW.PrintWords
theorem bucket3 : ∀ x ∈ ([5, 1, 4] : List Int), measure_bucket.f 3 2 x = some (bk3 x) := by
  intro x hx
  simp only [List.mem_cons, List.not_mem_nil, or_false] at hx
  rcases hx with rfl | rfl | rfl <;> kernel_rfl
set_option maxRecDepth 100000 in
set_option maxHeartbeats 4000000 in
theorem counts10 (w : World) : Calls Tryd.prog 16 #[] w fun e w' => e = .returned (.bool true) ∧ Below w.heap.size w w' := by
  have hC0 : Kd.C (Kd.int .i64) (w.alloc (.cells #[.int .i64 5, .int .i64 1, .int .i64 4] 3)) (some ⟨w.heap.size, 0, none⟩) 3 [5, 1, 4] := by
    have h := World.ownsRow_lit (base := 0) (e := 3) (size := 1) w #[.int .i64 5, .int .i64 1, .int .i64 4] 3 (Nat.zero_le _) (by decide) rfl
    exact (C_own (xs := [5, 1, 4]) (B := 0) ⟨h, by decide⟩).2.2
  go_enter Tryd.func16, Tryd.ntmps16
  go_wp2_with (first
    | (go_at_call 12; refine (Of11 2 3 bk3 (some ⟨w.heap.size, 0, none⟩) 3 3 [5, 1, 4] _ hC0 (by decide) bucket3 (by decide)).mono ?_; rintro e w4 ⟨v4, r4, rfl, hV4, hB4, ht4⟩; obtain rfl := tally_unique ht4 tally3; obtain ⟨A4, c4, rfl⟩ := Kd.V_slice hV4; obtain ⟨ad, rfl, q0, q1⟩ := at_T44 (Kd.C_below (Kd.V_reads' hV4).2.2 ((Below.refl _ w4).alloc (Nat.le_refl _) (.cells #[.int .i64 2, .slice A4 2 c4] 25))) 1 (by decide) (by decide); have q0' : (w4.alloc (.cells #[.int .i64 2, .slice (some ad) 2 c4] 25)).cell? ⟨ad.block, ad.off + 2, none⟩ = some (.int .i64 4) := q0; have q1' : (w4.alloc (.cells #[.int .i64 2, .slice (some ad) 2 c4] 25)).cell? ⟨ad.block, ad.off + 2 + 1, none⟩ = some (.int .i64 2) := q1)
    | go_in)
  go_ret
  refine ⟨rfl, ?_⟩
  have hB0 : Below w.heap.size w (w.alloc (.cells #[.int .i64 5, .int .i64 1, .int .i64 4] 3)) := (Below.refl _ _).alloc (Nat.le_refl _) _
  have hB1 := hB0.trans (Below.mono hB4 (by simp))
  exact hB1.alloc hB1.size _
end Go.Proofs.YtlkameeaaplonaaDoor

/- The walk of the law MeasureExpectedMatchesSpec. Conditions: the lists lie in memory as they are read and hold together at most 1048576 values; the table of powers of ten lies below. -/
namespace Go.Proofs.YtlkameeaaplonaaDoor
open Go.Shelf Go.RowKit Go.Maps Go.Proofs.YtlkameeaaplonaaDoor.QMeasureExpectedMatchesSpec
open Go.Proofs.YtlkameeaaplonaaDoorW.PrintWords Go.Proofs.YtlkameeaaplonaaDoorW.PrintLast Go.Proofs.YtlkameeaaplonaaDoorW.PrintMore
set_option linter.unusedVariables false
/-- Merge of two expected histograms is that of both lists. -/
theorem mergeE {b : Nat} {p : Int} {xs ys : List Int} {lx ly lz : List S44} (h2 : 2 ≤ b) (h8 : b ≤ 8) (hx : Fine xs) (hy : Fine ys) (hp1 : 1 ≤ p) (hnx : (sls p xs).length ≤ 1000000) (hny : (sls p ys).length ≤ 1000000) (hHx : IsHist (cntF b (sls p xs)) lx) (hHy : IsHist (cntF b (sls p ys)) ly) (hHz : IsHist (cntF b (sls p (xs ++ ys))) lz)
    (A A2 : Option Addr) (c c2 : Nat) (w : World) (hC : Kd.C k44 w A lx.length lx) (hc : lx.length ≤ c) (hC2 : Kd.C k44 w A2 ly.length ly) (hc2 : ly.length ≤ c2) :
    Ans 17 #[.agg #[.int .i64 (b : Int), .slice A lx.length c], .agg #[.int .i64 (b : Int), .slice A2 ly.length c2]] w ((b : Int), lz, 0) := by
  obtain ⟨_, hVx, _⟩ := many_facts h2 h8 (sls_ok hp1 hx.2) hnx hHx
  obtain ⟨_, hVy, _⟩ := many_facts h2 h8 (sls_ok hp1 hy.2) hny hHy
  obtain ⟨K1, e1⟩ := mchk_ev h2 h8 lx hVx
  obtain ⟨K2, e2⟩ := mchk_ev h2 h8 ly hVy
  have f1 := e1 (K1 + K2) (by omega)
  have f2 := e2 (K1 + K2) (by omega)
  refine merge17 (b : Int) ((b : Int), lz, 0) A A2 c c2 (K1 + K2) lx ly w hC hc hC2 hc2 ?_ ?_
  · simp only at f1 f2
    unfold measure_checkBoth.f
    rw [f1, Option.bind_some, if_pos rfl, f2, Option.bind_some, if_pos rfl, if_pos rfl]
  · intro W hW
    have tx : tot lx = (((sls p xs).map (bkt b)).length : Int) := hist_tot hHx
    have ty : tot ly = (((sls p ys).map (bkt b)).length : Int) := hist_tot hHy
    rw [List.length_map] at tx ty
    refine (merge44g b A A2 c c2 lx ly W hVx hVy (Kd.C_below hC hW) hc (Kd.C_below hC2 hW) hc2 (by omega)).mono ?_
    rintro e w' ⟨P, d, r, rfl, hV, hB, hH⟩
    obtain rfl := hist_unique (hH.congr fun y => by rw [sls_append, cntF_append, hHx.eq (cntF_nonneg b _) y, hHy.eq (cntF_nonneg b _) y]) hHz
    exact ⟨P, d, rfl, hV, hB⟩
theorem st {a b c : World} (h : Below a.heap.size a b) (h' : Below b.heap.size b c) : Below a.heap.size a c := h.trans (Below.mono h' h.size)
theorem sto {a b : World} (h : Below a.heap.size a b) (o : Obj) : Below a.heap.size a (b.alloc o) := h.alloc h.size o
set_option maxRecDepth 100000 in
set_option maxHeartbeats 8000000 in
theorem law8n (bits p : Int) (A1 A2 : Option Addr) (c1 c2 : Nat) (xs ys : List Int) (w : World) (hC1 : Kd.C (Kd.int .i64) w A1 xs.length xs) (hc1 : xs.length ≤ c1) (hC2 : Kd.C (Kd.int .i64) w A2 ys.length ys) (hc2 : ys.length ≤ c2) (hl : xs.length + ys.length ≤ 1048576) (htab : Pow10 w)
    (rx ry rz : Res) (kx : Nat) (hTx : Tell rx) (hkx : dynamometerref9_Expected.f kx bits xs p = some (rx.1, rx.2.1, rx.2.2))
    (hMx : ∀ (A : Option Addr) (q : Nat) (w : World), Kd.C (Kd.int .i64) w A xs.length xs → Ans 18 #[.int .i64 bits, .slice A xs.length q, .int .i64 p] w rx)
    (hMy : ∀ (A : Option Addr) (q : Nat) (w : World), Kd.C (Kd.int .i64) w A ys.length ys → Ans 18 #[.int .i64 bits, .slice A ys.length q, .int .i64 p] w ry)
    (hMz : ∀ (A : Option Addr) (q : Nat) (w : World), Kd.C (Kd.int .i64) w A (xs ++ ys).length (xs ++ ys) → Ans 18 #[.int .i64 bits, .slice A (xs ++ ys).length q, .int .i64 p] w rz)
    (hcc : (rx.2.2 == 0) = false ∨ (rx.2.2 == 0) = true ∧ (ry.2.2 == 0) = false ∨ (rx.2.2 == 0) = true ∧ (ry.2.2 == 0) = true ∧ (rz.2.2 == 0) = false) :
    Calls Tryd.prog 8 #[.int .i64 bits, .slice A1 xs.length c1, .slice A2 ys.length c2, .int .i64 p] w fun e w' => e = .returned (.bool true) ∧ Below w.heap.size w w' := by
  have a2 := fun W (h : Below w.heap.size w W) => ans_of_R (dynamometerref9_Expected.calls kx bits A1 c1 xs p rx.1 rx.2.1 rx.2.2 W (Kd.C_below hC1 h) hc1 hkx)
  clear hkx
  rcases hcc with g1 | ⟨g1, g2⟩ | ⟨g1, g2, g3⟩
  all_goals
    go_enter Tryd.func8, Tryd.ntmps8
    go_wp2_with (first
      | ((with_reducible refine gate_builtin (b := .append) (xs := #[.tmp 45, .tmp 46]) rfl ?_); at_builtin; go_loud (refine print_append_row (w0 := w5.alloc (hbx ry.1 P5 ry.2.1.length d5)) (w5.alloc (hbx ry.1 P5 ry.2.1.length d5)).heap.size rfl (.tmp 45) (.tmp 46) 22 3 .i64 8 rfl Tryd.underlying22 info3 (by decide) (.slice A6 xs.length c6) xs ys A2 ys.length c2 rfl rfl hown6 (C_reads (Kd.C_below hC2 (st hU5 hB6))) hB6 hB6.size (by omega) ?_); intro v7 w7 hown7 hB7 hg7 hat7; obtain ⟨A7, c7, rfl⟩ := row_slice hown7; have a3 := hMz A7 c7 w7 (own_C hown7); rw [List.length_append] at a3; have hU7 := st hU5 hB7)
      | ((with_reducible refine gate_builtin (b := .append) (xs := #[.const (.slice none 0 0), .tmp 44]) rfl ?_); at_builtin; go_loud (refine print_append_row (w0 := w5.alloc (hbx ry.1 P5 ry.2.1.length d5)) (w5.alloc (hbx ry.1 P5 ry.2.1.length d5)).heap.size rfl (.const (.slice none 0 0)) (.tmp 44) 22 3 .i64 8 rfl Tryd.underlying22 info3 (by decide) (.slice none 0 0) [] xs A1 xs.length c1 rfl rfl ⟨rfl, .inl ⟨rfl, rfl⟩⟩ (C_reads (Kd.C_below hC1 hU5)) (Below.refl _ _) (Nat.le_refl _) (by simp; omega) ?_); intro v6 w6 hown6 hB6 hg6 hat6; rw [List.nil_append] at hown6; obtain ⟨A6, c6, rfl⟩ := row_slice hown6)
      | (go_at_call 16; refine (counts10 _).mono ?_; rintro e w9 ⟨rfl, hB9⟩)
      | (go_at_call 18; refine a3.mono ?_; rintro e w8 ⟨P8, d8, rfl, hd8, hC8, hBt8⟩; have hU8 := sto (st hU7 hBt8) (hbx rz.1 P8 rz.2.1.length d8))
      | (go_at_call 18; refine (hMy A2 c2 w4 (Kd.C_below hC2 hU4)).mono ?_; rintro e w5 ⟨P5, d5, rfl, hd5, hC5, hBt5⟩; have hU5 := sto (st hU4 hBt5) (hbx ry.1 P5 ry.2.1.length d5))
      | (go_at_call 11; refine (tellRes rx hTx (d := d3) hC3 hU3 htab).mono ?_; rintro e w4 ⟨rfl, hBt4⟩; have hU4 := st hU3 hBt4)
      | (go_at_call 24; refine (a2 w2 hU2).mono ?_; rintro e w3 ⟨P3, d3, rfl, hd3, hC3, hBt3⟩; have hU3 := st hU2 hBt3)
      | (go_at_call 11; refine (tellRes rx hTx (d := d1) hCU1 hU1 htab).mono ?_; rintro e w2 ⟨rfl, hBt2⟩; have hU2 := st hU1 hBt2)
      | (go_at_call 18; refine (hMx A1 c1 w hC1).mono ?_; rintro e w1 ⟨P1, d1, rfl, hd1, hCr, hBt1⟩; have hU1 := sto hBt1 (hbx rx.1 P1 rx.2.1.length d1); have hCU1 := Kd.C_below hCr (sto (Below.refl w1.heap.size w1) (hbx rx.1 P1 rx.2.1.length d1)); obtain ⟨x0, x1⟩ := bx_cells (bx_alloc w1 rx.1 P1 rx.2.1.length d1))
      | go_in)
    go_ret
    exact ⟨rfl, st hU8 hB9⟩
theorem expTell {b : Nat} {p : Int} {xs : List Int} {r : List S44} (h2 : 2 ≤ b) (h8 : b ≤ 8) (hx : Fine xs) (hp1 : 1 ≤ p) (hn : (sls p xs).length ≤ 1000000) (hH : IsHist (cntF b (sls p xs)) r) : Tell ((b : Int), r, 0) := exp_tell h2 h8 hx hp1 hn hH
abbrev CellsE (W : World) (g : Nat) (a : Int) (A : Option Addr) (n c : Nat) : Prop := W.cell? ⟨g, 0, none⟩ = some (.int .i64 a) ∧ W.cell? ⟨g, 1, none⟩ = some (.slice A n c)
set_option maxRecDepth 100000 in
set_option maxHeartbeats 8000000 in
theorem law8g (b : Nat) (lx ly lz : List S44) (p : Int) (A1 A2 : Option Addr) (c1 c2 : Nat) (xs ys : List Int) (w : World) (hC1 : Kd.C (Kd.int .i64) w A1 xs.length xs) (hc1 : xs.length ≤ c1) (hC2 : Kd.C (Kd.int .i64) w A2 ys.length ys) (hc2 : ys.length ≤ c2) (hl : xs.length + ys.length ≤ 1048576) (htab : Pow10 w)
    (kx : Nat) (hTx : Tell ((b : Int), lx, 0)) (hTz : Tell ((b : Int), lz, 0)) (hkx : dynamometerref9_Expected.f kx (b : Int) xs p = some ((b : Int), lx, 0))
    (hMx : ∀ (A : Option Addr) (q : Nat) (w : World), Kd.C (Kd.int .i64) w A xs.length xs → Ans 18 #[.int .i64 (b : Int), .slice A xs.length q, .int .i64 p] w ((b : Int), lx, 0))
    (hMy : ∀ (A : Option Addr) (q : Nat) (w : World), Kd.C (Kd.int .i64) w A ys.length ys → Ans 18 #[.int .i64 (b : Int), .slice A ys.length q, .int .i64 p] w ((b : Int), ly, 0))
    (hMz : ∀ (A : Option Addr) (q : Nat) (w : World), Kd.C (Kd.int .i64) w A (xs ++ ys).length (xs ++ ys) → Ans 18 #[.int .i64 (b : Int), .slice A (xs ++ ys).length q, .int .i64 p] w ((b : Int), lz, 0))
    (hMm : ∀ (A A2 : Option Addr) (c c2 : Nat) (w : World), Kd.C k44 w A lx.length lx → lx.length ≤ c → Kd.C k44 w A2 ly.length ly → ly.length ≤ c2 → Ans 17 #[.agg #[.int .i64 (b : Int), .slice A lx.length c], .agg #[.int .i64 (b : Int), .slice A2 ly.length c2]] w ((b : Int), lz, 0)) :
    Calls Tryd.prog 8 #[.int .i64 (b : Int), .slice A1 xs.length c1, .slice A2 ys.length c2, .int .i64 p] w fun e w' => e = .returned (.bool true) ∧ Below w.heap.size w w' := by
  have a2 := fun W (h : Below w.heap.size w W) => ans_of_R (r := ((b : Int), lx, 0)) (dynamometerref9_Expected.calls kx (b : Int) A1 c1 xs p (b : Int) lx 0 W (Kd.C_below hC1 h) hc1 hkx)
  clear hkx
  go_enter Tryd.func8, Tryd.ntmps8
  go_wp2_with (first
    | ((with_reducible refine gate_builtin (b := .append) (xs := #[.tmp 45, .tmp 46]) rfl ?_); at_builtin; go_loud (refine print_append_row (w0 := w5.alloc (hbx (b : Int) P5 ly.length d5)) (w5.alloc (hbx (b : Int) P5 ly.length d5)).heap.size rfl (.tmp 45) (.tmp 46) 22 3 .i64 8 rfl Tryd.underlying22 info3 (by decide) (.slice A6 xs.length c6) xs ys A2 ys.length c2 rfl rfl hown6 (C_reads (Kd.C_below hC2 (st hU5 hB6))) hB6 hB6.size (by omega) ?_); intro v7 w7 hown7 hB7 hg7 hat7; obtain ⟨A7, c7, rfl⟩ := row_slice hown7; have a3 := hMz A7 c7 w7 (own_C hown7); rw [List.length_append] at a3; have hU7 := st hU5 hB7; have hV7 := st hV5 hB7)
    | ((with_reducible refine gate_builtin (b := .append) (xs := #[.const (.slice none 0 0), .tmp 44]) rfl ?_); at_builtin; go_loud (refine print_append_row (w0 := w5.alloc (hbx (b : Int) P5 ly.length d5)) (w5.alloc (hbx (b : Int) P5 ly.length d5)).heap.size rfl (.const (.slice none 0 0)) (.tmp 44) 22 3 .i64 8 rfl Tryd.underlying22 info3 (by decide) (.slice none 0 0) [] xs A1 xs.length c1 rfl rfl ⟨rfl, .inl ⟨rfl, rfl⟩⟩ (C_reads (Kd.C_below hC1 hU5)) (Below.refl _ _) (Nat.le_refl _) (by simp; omega) ?_); intro v6 w6 hown6 hB6 hg6 hat6; rw [List.nil_append] at hown6; obtain ⟨A6, c6, rfl⟩ := row_slice hown6)
    | (go_at_call 17; refine (hMm P1 P5 d1 d5 _ (Kd.C_below hCU1 hV8) hd1 (Kd.C_below hCU5 hW8) hd5).mono ?_; rintro e w9 ⟨P9, d9, rfl, hd9, hC9, hB9⟩)
    | (go_at_call 18; refine a3.mono ?_; rintro e w8 ⟨P8, d8, rfl, hd8, hC8, hBt8⟩; have hU8 := sto (st hU7 hBt8) (hbx (b : Int) P8 lz.length d8); have hV8 := sto (st hV7 hBt8) (hbx (b : Int) P8 lz.length d8); have hW8 := sto (st hB7 hBt8) (hbx (b : Int) P8 lz.length d8); obtain ⟨y0, y1⟩ := bx_cells ((hV8.block _ g1l).trans (bx_alloc w1 (b : Int) P1 lx.length d1)); obtain ⟨z0, z1⟩ := bx_cells ((hW8.block _ g5l).trans (bx_alloc w5 (b : Int) P5 ly.length d5)))
    | (go_at_call 18; refine (hMy A2 c2 w4 (Kd.C_below hC2 hU4)).mono ?_; rintro e w5 ⟨P5, d5, rfl, hd5, hCr5, hBt5⟩; have hU5 := sto (st hU4 hBt5) (hbx (b : Int) P5 ly.length d5); have hV5 := sto (st hV4 hBt5) (hbx (b : Int) P5 ly.length d5); have hCU5 := Kd.C_below hCr5 (sto (Below.refl w5.heap.size w5) (hbx (b : Int) P5 ly.length d5)); have g5l : w5.heap.size < (w5.alloc (hbx (b : Int) P5 ly.length d5)).heap.size := (by simp))
    | (go_at_call 11; refine (tellRes ((b : Int), lx, 0) hTx (d := d3) hC3 hU3 htab).mono ?_; rintro e w4 ⟨rfl, hBt4⟩; have hU4 := st hU3 hBt4; have hV4 := st hV3 hBt4)
    | (go_at_call 24; refine (a2 w2 hU2).mono ?_; rintro e w3 ⟨P3, d3, rfl, hd3, hC3, hBt3⟩; have hU3 := st hU2 hBt3; have hV3 := st hBt2 hBt3)
    | (go_at_call 11; refine (tellRes ((b : Int), lx, 0) hTx (d := d1) hCU1 hU1 htab).mono ?_; rintro e w2 ⟨rfl, hBt2⟩; have hU2 := st hU1 hBt2)
    | (go_at_call 18; refine (hMx A1 c1 w hC1).mono ?_; rintro e w1 ⟨P1, d1, rfl, hd1, hCr, hBt1⟩; have hU1 := sto hBt1 (hbx (b : Int) P1 lx.length d1); have hCU1 := Kd.C_below hCr (sto (Below.refl w1.heap.size w1) (hbx (b : Int) P1 lx.length d1)); have g1l : w1.heap.size < (w1.alloc (hbx (b : Int) P1 lx.length d1)).heap.size := (by simp); obtain ⟨x0, x1⟩ := bx_cells (bx_alloc w1 (b : Int) P1 lx.length d1))
    | go_in)
  obtain ⟨U, hE⟩ : ∃ U, w9.alloc (.cells #[.int .i64 (b : Int), .slice P9 lz.length d9] 25) = U := ⟨_, rfl⟩
  rw [hE]
  have hBU : Below w.heap.size w U := by rw [← hE]; exact sto (st hU8 hB9) _
  have q8l : w8.heap.size < (w8.alloc (hbx (b : Int) P8 lz.length d8)).heap.size := by simp
  have q8 : U.heap[w8.heap.size]? = some (hbx (b : Int) P8 lz.length d8) := by rw [← hE]; exact ((sto hB9 _).block _ q8l).trans (bx_alloc w8 _ _ _ _)
  have q9 : U.heap[w9.heap.size]? = some (hbx (b : Int) P9 lz.length d9) := by rw [← hE]; exact bx_alloc w9 _ _ _ _
  have q8u : w8.heap.size < U.heap.size := by rw [← hE]; have := hB9.size; simp; omega
  have q9u : w9.heap.size < U.heap.size := by rw [← hE]; simp
  have c8 : Kd.C k44 U P8 lz.length lz := by rw [← hE]; exact Kd.C_below hC8 (sto (st (sto (Below.refl _ _) _) hB9) _)
  have c9 : Kd.C k44 U P9 lz.length lz := by rw [← hE]; exact Kd.C_below hC9 (sto (Below.refl _ _) _)
  have hfr : ∀ W : World, Below U.heap.size U W → CellsE W w8.heap.size (b : Int) P8 lz.length d8 ∧ CellsE W w9.heap.size (b : Int) P9 lz.length d9 ∧ Below U.heap.size U W := fun W h =>
    ⟨bx_cells ((h.block _ q8u).trans q8), bx_cells ((h.block _ q9u).trans q9), h⟩
  have tZ := fun W (h : Below U.heap.size U W) => tellRes ((b : Int), lz, 0) hTz (d := d9) (Kd.C_below c9 h : Kd.C k44 W P9 lz.length lz) (st hBU h) htab
  have tY := fun W (h : Below U.heap.size U W) => tellRes ((b : Int), lz, 0) hTz (d := d8) (Kd.C_below c8 h : Kd.C k44 W P8 lz.length lz) (st hBU h) htab
  have hBd3 := (Below.refl U.heap.size U).drew
  have hS0 := hfr U.drew hBd3
  clear hE hU1 hU2 hU3 hU4 hU5 hU7 hU8 hV3 hV4 hV5 hV7 hV8 hW8 hB9 hBt1 hBt2 hBt3 hBt4 hBt5 hBt8 hB6 hB7 hg6 hg7 hat6 hat7 hown6 hown7 hC3 hC8 hC9 hCr hCr5 hCU1 hCU5 x0 x1 y0 y1 z0 z1 q8 q9 q8l q8u q9u c8 c9 a3 a2 hMx hMy hMz hMm hC1 hC2
  go_region_held3 (fun W => CellsE W w8.heap.size (b : Int) P8 lz.length d8 ∧ CellsE W w9.heap.size (b : Int) P9 lz.length d9 ∧ Below U.heap.size U W) (first | assumption | exact hS0)
    (first | (go_at_call 16; refine (counts10 _).mono ?_; rintro e u3 ⟨rfl, hBt⟩; have hS3 := hfr u3 (st hS2.2.2 hBt))
           | (go_at_call 11; refine (tY u1 hS1.2.2).mono ?_; rintro e u2 ⟨rfl, hBt⟩; have hS2 := hfr u2 (st hS1.2.2 hBt))
           | (go_at_call 11; refine (tZ _ hBd3).mono ?_; rintro e u1 ⟨rfl, hBt⟩; have hS1 := hfr u1 (st hBd3 hBt)))
  go_wp2
  go_ret
  exact ⟨rfl, st hBU hS3.2.2⟩
theorem law8 (bits p : Int) (A1 A2 : Option Addr) (c1 c2 : Nat) (xs ys : List Int) (w : World) (hC1 : Kd.C (Kd.int .i64) w A1 xs.length xs) (hc1 : xs.length ≤ c1) (hC2 : Kd.C (Kd.int .i64) w A2 ys.length ys) (hc2 : ys.length ≤ c2) (hl : xs.length + ys.length ≤ 1048576) (htab : Pow10 w) :
    Calls Tryd.prog 8 #[.int .i64 bits, .slice A1 xs.length c1, .slice A2 ys.length c2, .int .i64 p] w fun e w' => e = .returned (.bool true) ∧ Below w.heap.size w w' := by
  obtain ⟨rx, hTx, ⟨kx, ex⟩, hMx, -, hgx⟩ := exp_both bits p xs
  obtain ⟨ry, hTy, -, hMy, -, hgy⟩ := exp_both bits p ys
  obtain ⟨rz, hTz, -, hMz, -, hgz⟩ := exp_both bits p (xs ++ ys)
  have hkx := ex kx (Nat.le_refl _)
  by_cases h1 : rx.2.2 = 0
  · by_cases h2 : ry.2.2 = 0
    · by_cases h3 : rz.2.2 = 0
      · obtain ⟨b, lx, rfl, b2, b8, hx, hp1, hp2, hnx, rfl, hHx⟩ := hgx h1
        obtain ⟨b', ly, eb, -, -, hy, -, -, hny, rfl, hHy⟩ := hgy h2
        obtain rfl : b = b' := by omega
        obtain ⟨b', lz, eb, -, -, hz, -, -, hnz, rfl, hHz⟩ := hgz h3
        obtain rfl : b = b' := by omega
        exact law8g b lx ly lz p A1 A2 c1 c2 xs ys w hC1 hc1 hC2 hc2 hl htab kx hTx hTz hkx hMx hMy hMz (fun A A2 c c2 w hC hc hC2 hc2 => mergeE b2 b8 hx hy hp1 hnx hny hHx hHy hHz A A2 c c2 w hC hc hC2 hc2)
      · exact law8n bits p A1 A2 c1 c2 xs ys w hC1 hc1 hC2 hc2 hl htab rx ry rz kx hTx hkx hMx hMy hMz (.inr (.inr ⟨by simpa using h1, by simpa using h2, by simpa using h3⟩))
    · exact law8n bits p A1 A2 c1 c2 xs ys w hC1 hc1 hC2 hc2 hl htab rx ry rz kx hTx hkx hMx hMy hMz (.inr (.inl ⟨by simpa using h1, by simpa using h2⟩))
  · exact law8n bits p A1 A2 c1 c2 xs ys w hC1 hc1 hC2 hc2 hl htab rx ry rz kx hTx hkx hMx hMy hMz (.inl (by simpa using h1))
#print axioms law8
end Go.Proofs.YtlkameeaaplonaaDoor

/- What a row opens: ints, lists of ints, histograms; the table of powers of ten out of the row's list. Condition: none. -/
namespace Go.Proofs.YtlkameeaaplonaaDoor.DRow
open Go.ChangeShapes Go.WideShapes Go.ChangeAt Go.RowKit Go.Deep Go.Proofs.YtlkameeaaplonaaDoor.QMeasureExpectedMatchesSpec
open Go.Proofs.YtlkameeaaplonaaDoorW.PrintWords
set_option linter.unusedVariables false
section
variable {H : Type} {enc : TypeId × Value → H} {w : World} {base : Nat} {spare : Nat → Bool} {held : Bool}
/-- A slice, from its cells; its elements by their own law. -/
theorem slice_open {α : Type} (d : Kd α) (Q : α → Prop) {t e : TypeId} (ht : Tryd.prog.underlying t = some (.slice e)) (hc : Tryd.prog.cellsOf e = d.sz)
    (elem : ∀ {fuel : Nat} {cs : List Value} {x : DataW H × List MemPlace}, DataW.trod enc Tryd.prog w base spare held fuel e cs = some x → ∃ s : α, d.K w s cs ∧ Q s)
    {fuel : Nat} {cs : List Value} {x : DataW H × List MemPlace} (hf : DataW.trod enc Tryd.prog w base spare held fuel t cs = some x) :
    ∃ (a : Option Addr) (len cap : Nat) (l : List α), cs = [.slice a len cap] ∧ l.length = len ∧ len ≤ cap ∧ Kd.C d w a len l ∧ ∀ s ∈ l, Q s := by
  rcases open_slice ht hf with ⟨hcs, _⟩ | ⟨x, ln, c, m, n, D, Pl, hcs, _, hl, hm, hmm, _, hx⟩
  · exact ⟨none, 0, 0, [], hcs, rfl, Nat.le_refl _, ⟨rfl, by omega, fun h => absurd h (by omega)⟩, by simp⟩
  · have hlm : ln ≤ m := by rw [hmm]; split <;> omega
    have each : ∀ i, i < ln → ∃ (s : α) (cs' : List Value), w.cells? base (x.add (i * d.sz)) d.sz = some cs' ∧ d.K w s cs' ∧ Q s := by
      intro i hi
      obtain ⟨cs', h1, h2⟩ := hx i (by omega)
      obtain ⟨s, hs⟩ := elem h2
      rw [hc] at h1
      exact ⟨s, cs', h1, hs⟩
    have hsome : ∀ n : Nat, n ≤ ln → ∃ l : List α, l.length = n ∧ (∀ i s, l[i]? = some s → ∃ cs', w.cells? base (x.add (i * d.sz)) d.sz = some cs' ∧ d.K w s cs') ∧ ∀ s ∈ l, Q s := by
      intro n
      induction n with
      | zero => intro _; exact ⟨[], rfl, by simp, by simp⟩
      | succ n ih =>
        intro hn
        obtain ⟨l, h1, h2, h3⟩ := ih (by omega)
        obtain ⟨s, cs', hs, hk, hq⟩ := each n (by omega)
        refine ⟨l ++ [s], by simp [h1], fun i t ht => ?_, fun t ht => ?_⟩
        · by_cases hi : i < l.length
          · rw [List.getElem?_append_left hi] at ht
            exact h2 i t ht
          · rw [List.getElem?_append_right (by omega)] at ht
            have hi' : i = n := by
              have := (List.getElem?_eq_some_iff.1 ht).1
              simp at this
              omega
            subst hi'
            rw [h1, Nat.sub_self] at ht
            simp at ht
            subst ht
            exact ⟨cs', hs, hk⟩
        · rcases List.mem_append.1 ht with h | h
          · exact h3 t h
          · obtain rfl := List.mem_singleton.1 h
            exact hq
    obtain ⟨l, h1, h2, h3⟩ := hsome ln (Nat.le_refl _)
    refine ⟨some x, ln, c, l, hcs, h1, hl, ⟨h1, by unfold maxLen at hm; omega, fun _ => ⟨x, rfl, fun j s hj => ?_⟩⟩, h3⟩
    obtain ⟨cs', h3, h4⟩ := h2 j s hj
    obtain ⟨_, hlen, hcell⟩ := World.cells?_some h3
    refine ⟨cs', d.K_len h4, h4, fun i u hu => ?_⟩
    have hi : i < d.sz := by have := (List.getElem?_eq_some_iff.1 hu).1; rw [d.K_len h4] at this; exact this
    have := hcell i hi
    rw [hu, Go.Deep.add_add] at this
    exact this
abbrev wf64 (s : Int) : Prop := (Lit.int .i64 s).wf = true
theorem int_open {fuel : Nat} {cs : List Value} {x : DataW H × List MemPlace} (h : DataW.trod enc Tryd.prog w base spare held fuel 3 cs = some x) : ∃ s : Int, (Kd.int .i64).K w s cs ∧ wf64 s := by
  obtain ⟨n0, e0, _, hw⟩ := DataW.trod_int Tryd.underlying3 h
  exact ⟨n0, e0, hw⟩
/-- A list of ints, from what is read. -/
theorem ints_open {a : Option Addr} {len cap : Nat} {d : DataW H} {ps : List MemPlace} (h : DataW.Trod enc Tryd.prog w base spare held 22 (.slice a len cap) d ps) :
    ∃ l : List Int, l.length = len ∧ len ≤ cap ∧ Kd.C (Kd.int .i64) w a len l ∧ ∀ s ∈ l, wf64 s := by
  obtain ⟨fuel, hf⟩ := h
  obtain ⟨a', len', cap', l, e, h1, h2, h3, h4⟩ := slice_open (Kd.int .i64) wf64 Tryd.underlying22 (by kernel_rfl) (fun h => int_open h) hf
  simp [Value.cells] at e
  obtain ⟨rfl, rfl, rfl⟩ := e
  exact ⟨l, h1, h2, h3, h4⟩
theorem count_open {fuel : Nat} {cs : List Value} {x : DataW H × List MemPlace} (h : DataW.trod enc Tryd.prog w base spare held fuel 44 cs = some x) : ∃ s : S44, k44.K w s cs ∧ (wf64 s.f0 ∧ wf64 s.f1) := by
  obtain ⟨xs, k, _, _, hlen, hxl, hf⟩ := DataW.trod_struct Tryd.underlying44 h
  have hc : Tryd.prog.cellsOf 44 = 2 := by kernel_rfl
  have hc3 : Tryd.prog.cellsOf 3 = 1 := by kernel_rfl
  rw [hc] at hlen
  have hxl' : xs.length = 2 := hxl
  clear hxl
  have e2 : ∀ {α : Type} (l : List α), l.length = 2 → ∃ a b, l = [a, b] := by
    intro α l hl
    rcases l with _ | ⟨a, _ | ⟨b, _ | ⟨c, l⟩⟩⟩ <;> simp at hl
    exact ⟨a, b, rfl⟩
  obtain ⟨v0, v1, rfl⟩ := e2 cs hlen
  obtain ⟨y0, y1, rfl⟩ := e2 xs hxl'
  have g0 := hf 0 _ rfl
  have g1 := hf 1 _ rfl
  simp [hc3] at g0 g1
  obtain ⟨s0, e0, _, q0⟩ := DataW.trod_int Tryd.underlying3 g0
  obtain ⟨s1, e1, _, q1⟩ := DataW.trod_int Tryd.underlying3 g1
  simp at e0 e1
  exact ⟨⟨s0, s1⟩, by rw [e0, e1]; exact k44_mk w ⟨s0, s1⟩, q0, q1⟩
/-- A histogram, from what is read. -/
theorem hist_open {r : Reach} {b0 : Nat} {v : Value} {d : DataW H} {p : List MemPlace} (hv : Value.okWide Tryd.prog w r b0 25 v) (h : DataW.Trod enc Tryd.prog w base spare held 25 v d p) :
    ∃ (bits : Int) (a : Option Addr) (l : List S44) (cap : Nat), v = .agg #[.int .i64 bits, .slice a l.length cap] ∧ l.length ≤ cap ∧ wf64 bits ∧ Kd.C k44 w a l.length l ∧ ∀ s ∈ l, wf64 s.f0 ∧ wf64 s.f1 := by
  obtain ⟨v0, v1, y0, y1, n, rfl, _, _, h0, h1⟩ := Joins.open_agg2 Tryd.underlying25 (by kernel_rfl) (by kernel_rfl) hv h
  obtain ⟨bits, e0, _, hw⟩ := DataW.trod_int Tryd.underlying3 h0
  obtain ⟨a, len, cap, l, e1, rfl, h2, h3, h4⟩ := slice_open k44 (fun s => wf64 s.f0 ∧ wf64 s.f1) Tryd.underlying23 (by kernel_rfl) (fun h => count_open h) h1
  simp at e0 e1
  subst e0 e1
  exact ⟨bits, a, l, cap, rfl, h2, hw, h3, h4⟩
end
theorem own : ownKnob Tryd.prog.godebug = none := by kernel_rfl
theorem laidOut : laidOutB Tryd.prog = true := by kernel_rfl
/-- The list of each row of this seat. -/
def laid : List (String × DataW Unit) := [("math/bits.deBruijn32tab", Rows.laid_math_bits_deBruijn32tab), ("math/bits.deBruijn64tab", Rows.laid_math_bits_deBruijn64tab), ("internal/strconv.uint64pow10", Rows.laid_internal_strconv_uint64pow10)]
theorem pow10_eq : (Rows.laid_internal_strconv_uint64pow10 : DataW Unit) = Lib.tabData .u64 Lib.pow10Tab := by kernel_rfl
theorem table {W : World} (h : laidMetH Tryd.prog laid W) : Lib.TabBelow Tryd.prog W.heap.size W "internal/strconv.uint64pow10" .u64 Lib.pow10Tab := by
  rw [MakeChecks.laidMetH_plain _ _ _ (by kernel_rfl)] at h
  have h3 := h.tail.tail
  rw [pow10_eq] at h3
  exact Lib.tabBelow_of_tabIs (Lib.tabIs_of_head (rest := []) (g := 0) (t := 94) (e := 78) (n := 20) (by kernel_rfl) (by kernel_rfl) Tryd.underlying94 Tryd.underlying78 (by kernel_rfl) (by kernel_rfl) h3)
end Go.Proofs.YtlkameeaaplonaaDoor.DRow

/- MeasureExpectedMatchesSpec: the second row and its tied card. Conditions: the row's own list of variables and its bound on the arguments' bulk. -/
namespace Go.Proofs.YtlkameeaaplonaaDoor.measureExpectedMatchesSpec
open Go.ChangeShapes Go.WideShapes Go.ChangeAt Go.RowKit Go.Deep Go.Proofs.YtlkameeaaplonaaDoor.QMeasureExpectedMatchesSpec Go.Proofs.YtlkameeaaplonaaDoor.DRow
open Go.Proofs.YtlkameeaaplonaaDoorW.PrintWords
set_option linter.unusedVariables false
theorem door_met (os : Os) (args : Array Value) : laidMetH Tryd.prog Rows.measureExpectedMatchesSpecUptoRow.laid ((World.doorLaid Tryd.prog 400 os).forCall (fun _ _ => 0) ⟨#[], args, []⟩).memory :=
  laidMetH_of_parts3 (fuel := 8) (laidMet_of_run' 8 (by kernel_rfl) (by kernel_rfl)) (by kernel_rfl) (by kernel_rfl)
theorem reads (os : Os) {H : Type} (enc : TypeId × Value → H) : ∃ places, DataW.whole enc Tryd.prog ((World.doorLaid Tryd.prog 400 os).forCall (fun _ _ => 0) ⟨#[], #[.int .i64 0, .slice none 0 0, .slice none 0 0, .int .i64 0], []⟩).memory Tryd.f8.params.toList Rows.measureExpectedMatchesSpecSpec.vars false #[.int .i64 0, .slice none 0 0, .slice none 0 0, .int .i64 0].toList 8 = some ([.lit (.int .i64 0), .nil, .nil, .lit (.int .i64 0)], [], places) :=
  ⟨[], by kernel_rfl⟩
theorem bulk_one {H : Type} (d : DataW H) : 1 ≤ Rows.uptoBulk d := by
  cases d with
  | lit l => cases l <;> simp [Rows.uptoBulk]
  | _ => simp [Rows.uptoBulk]
theorem bulk_len {H : Type} : ∀ l : List (DataW H), l.length ≤ Rows.uptoBulkAll l
  | [] => Nat.zero_le _
  | x :: r => by
    have := bulk_one x
    have := bulk_len r
    simp only [Rows.uptoBulkAll, List.length_cons]
    omega
/-- A list of ints is not longer than its reading is large. -/
theorem len_bulk {H : Type} {enc : TypeId × Value → H} {w : World} {base : Nat} {spare : Nat → Bool} {held : Bool} {a : Option Addr} {len cap : Nat} {d : DataW H} {ps : List MemPlace} (h : DataW.Trod enc Tryd.prog w base spare held 22 (.slice a len cap) d ps) : len ≤ Rows.uptoBulk d := by
  obtain ⟨fuel, hf⟩ := h
  rcases open_slice Tryd.underlying22 hf with ⟨hcs, hx⟩ | ⟨x, ln, c, m, n, D, Pl, hcs, _, _, _, _, hx, _⟩
  · simp [Value.cells] at hcs
    omega
  · simp [Value.cells] at hcs
    obtain ⟨rfl, rfl, rfl⟩ := hcs
    injection hx with e1 e2
    subst e1
    have := bulk_len ((List.range len).map D)
    rw [List.length_map, List.length_range] at this
    simp only [Rows.uptoBulk]
    omega
set_option maxRecDepth 100000 in
theorem lifted (os : Os) (started : os.Started) (H : Type) (enc : TypeId × Value → H) (F : Stop.Interp) :
    ReturnsInHanded {} Tryd.checked os 8 .any ((Rows.OpenSpec.upto Rows.measureExpectedMatchesSpecSpec).preRow enc Tryd.prog Tryd.f8 Rows.measureExpectedMatchesSpecUptoRow.domain false Rows.measureExpectedMatchesSpecUptoRow.laid) (((Rows.OpenSpec.upto Rows.measureExpectedMatchesSpecSpec).at F).post enc Tryd.prog Tryd.f8 false true false false) := by
  obtain ⟨places, hx⟩ := reads os enc
  refine returnsInHanded_of_row (C := Tryd.checked) (s := Rows.OpenSpec.upto Rows.measureExpectedMatchesSpecSpec) own started (by kernel_rfl) Tryd.func8
    (witness_row_atRef (enc := enc) (C := Tryd.checked) false (World.doorLaid Tryd.prog 400 os) #[.int .i64 0, .slice none 0 0, .slice none 0 0, .int .i64 0] rfl (by kernel_rfl) (by kernel_rfl) (by kernel_rfl)
      (OpenSpec.preRow_of_cond 8 hx (by kernel_rfl) (fun k hk => by cases hk; kernel_rfl) (by kernel_rfl) (door_met os _))) ?_
  intro W base args ds gs before hval0 hW _ hcond _ hL _ _
  have hk := hcond _ rfl
  clear hcond
  have htab := table (show laidMetH Tryd.prog laid W from hL)
  have hval : ∀ (j : Nat) t v, Tryd.f8.params[j]? = some t → args[j]? = some v → Value.okWide Tryd.prog W .any base t v := hval0
  have hW' := hW
  obtain ⟨p, q, hA0, hV, rfl, hfz, hnd⟩ := hW
  have hA : DataW.TrodAll enc Tryd.prog W 0 (fun _ => true) true Tryd.f8.params.toList args.toList ds p := hA0
  rw [Tryd.params8] at hA hval
  obtain ⟨v0, vs0, d0, ds0, p0, q0, hargs, rfl, rfl, h0, r0⟩ := trodAll_cons hA
  obtain ⟨v1, vs1, d1, ds1, p1, q1, rfl, rfl, rfl, h1, r1⟩ := trodAll_cons r0
  obtain ⟨v2, vs2, d2, ds2, p2, q2, rfl, rfl, rfl, h2, r2⟩ := trodAll_cons r1
  obtain ⟨v3, vs3, d3, ds3, p3, q3, rfl, rfl, rfl, h3, r3⟩ := trodAll_cons r2
  obtain ⟨rfl, rfl, rfl⟩ := trodAll_nil r3
  obtain rfl : args = #[v0, v1, v2, v3] := by cases args; simp_all
  obtain ⟨rfl, rfl⟩ := trodVars_none hV
  obtain ⟨a0, rfl, rfl, rfl, w0⟩ := open_int Tryd.underlying3 (hval 0 3 v0 rfl rfl) h0
  obtain ⟨A1, len1, c1, rfl⟩ := okWide_slice Tryd.underlying22 (hval 1 22 v1 rfl rfl)
  obtain ⟨A2, len2, c2, rfl⟩ := okWide_slice Tryd.underlying22 (hval 2 22 v2 rfl rfl)
  obtain ⟨a3, rfl, rfl, rfl, w3⟩ := open_int Tryd.underlying3 (hval 3 3 v3 rfl rfl) h3
  have k1 := h1
  have lt1 : ∀ x ∈ p1, x.block < W.heap.size := by obtain ⟨m, hm⟩ := k1; exact DataW.trod_lt m _ _ _ hm
  obtain ⟨l1, rfl, hc1, hr1, hw1⟩ := ints_open h1
  have k2 := h2
  have lt2 : ∀ x ∈ p2, x.block < W.heap.size := by obtain ⟨m, hm⟩ := k2; exact DataW.trod_lt m _ _ _ hm
  obtain ⟨l2, rfl, hc2, hr2, hw2⟩ := ints_open h2
  have hb := of_decide_eq_true (p := Rows.uptoBulkAll (H := H) _ ≤ 1048576) hk
  simp only [List.cons_append, List.nil_append, Rows.uptoBulkAll] at hb
  have hn1 := len_bulk h1
  have hn2 := len_bulk h2
  clear hA0 hval0
  refine (law8 a0 a3 A1 A2 c1 c2 l1 l2 W hr1 hc1 hr2 hc2 (by omega) htab).mono fun e W' ⟨he, bel⟩ => ?_
  subst he
  exact ⟨_, rfl, _, _, _, [], _, [], hW', trodAll_mk1 (shut_bool Tryd.underlying4 _), (trodAll_cons_mk (shut_int Tryd.underlying3 w0) (trodAll_cons_mk (Below.trod laidOut (by kernel_rfl) (of_decide_eq_true (by kernel_rfl)) k1 bel lt1) (trodAll_cons_mk (Below.trod laidOut (by kernel_rfl) (of_decide_eq_true (by kernel_rfl)) k2 bel lt2) (trodAll_cons_mk (shut_int Tryd.underlying3 w3) trodAll_mk0)))), rfl, bel.frame _, fun h => by cases h⟩
theorem over : Rows.measureExpectedMatchesSpecUptoRow.holds Tryd.pinned (Rows.OpenSpec.upto Rows.measureExpectedMatchesSpecSpec) :=
  OpenClaim.holds_of_cond 8 Tryd.f8 rfl rfl rfl rfl rfl rfl rfl ⟨rfl, rfl, rfl, rfl, rfl⟩ rfl rfl rfl rfl rfl (by kernel_rfl) Tryd.func8 (by kernel_rfl)
    (of_decide_eq_true (by kernel_rfl)) (by unfold Func.isWrapper; first | (rw [if_pos (by decide +kernel)]; kernel_rfl) | (rw [if_neg (by decide +kernel)]; exact ⟨rfl, rfl⟩))
    (fun os started H enc _ F => by rw [OpenClaim.pre_eq_preRow]; exact lifted os started H enc F)
theorem plain (f : FuncId) (fn : Func) (hf : Tryd.pinned.checked.prog.funcNamed "dynamometer/dynamometerlaw9.MeasureExpectedMatchesSpec" = some f) (hfn : Tryd.pinned.checked.prog.funcs[f]? = some fn) :
    false = Tryd.pinned.checked.prog.looks [] ∧ ∀ (j : Nat) t, fn.params[j]? = some t → Tryd.pinned.checked.prog.wantsStandIn t = false := by
  obtain rfl : f = 8 := Option.some.inj ((show Tryd.prog.funcNamed "dynamometer/dynamometerlaw9.MeasureExpectedMatchesSpec" = some 8 by kernel_rfl).symm.trans hf) |>.symm
  obtain rfl : fn = Tryd.f8 := (Option.some.inj (Tryd.func8.symm.trans hfn)).symm
  refine ⟨by kernel_rfl, fun j t ht => ?_⟩
  rw [Tryd.params8] at ht
  have hm : t ∈ [3, 22, 22, 3] := by simpa using Array.mem_of_getElem? ht
  have hall : ([3, 22, 22, 3].all fun u => !Tryd.prog.wantsStandIn u) = true := by kernel_rfl
  exact (show Tryd.prog.wantsStandIn t = false by simpa using List.all_eq_true.1 hall t hm)
end Go.Proofs.YtlkameeaaplonaaDoor.measureExpectedMatchesSpec
namespace Go.Proofs.YtlkameeaaplonaaDoor
/-- The card. -/
theorem measureExpectedMatchesSpecUpto_holds : Rows.MeasureExpectedMatchesSpecUptoCardSaid :=
  Claim7.holds_tied_plain_at .later [] _ _ _ _ measureExpectedMatchesSpec.over (fun _ h => by cases h) (by kernel_rfl) (fun _ h => by cases h) measureExpectedMatchesSpecUpto_row_tie rfl ⟨rfl, rfl⟩ (by kernel_rfl) rfl measureExpectedMatchesSpec.plain (by kernel_rfl)
#print axioms measureExpectedMatchesSpecUpto_holds
end Go.Proofs.YtlkameeaaplonaaDoor
