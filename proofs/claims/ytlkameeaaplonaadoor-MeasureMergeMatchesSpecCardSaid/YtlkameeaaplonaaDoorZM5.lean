/- The texts of the claim, part 5: each says in its own first line what is proved and its conditions. -/
import Derived.Deep.RegionHeld3
import Derived.Test.YtlkameeaaplonaaDoorQMeasureMergeMatchesSpecx0
import Derived.Test.YtlkameeaaplonaaDoorQMeasureMergeMatchesSpecx1
import Derived.Test.YtlkameeaaplonaaDoorQMeasureMergeMatchesSpecx2
import Derived.Test.YtlkameeaaplonaaDoorQMeasureMergeMatchesSpecx3
import Derived.Test.YtlkameeaaplonaaDoorQMeasureMergeMatchesSpecx4
import Derived.Test.YtlkameeaaplonaaDoorQMeasureMergeMatchesSpecx5
import Derived.Test.YtlkameeaaplonaaDoorQMeasureMergeMatchesSpecx6
import Derived.Test.YtlkameeaaplonaaDoorQMeasureMergeMatchesSpecx7
import Derived.Test.YtlkameeaaplonaaDoorQMeasureMergeMatchesSpecx8
import Derived.Test.YtlkameeaaplonaaDoorTie
import Derived.Test.YtlkameeaaplonaaDoorCards
import Derived.Lib.LaidTab
import Derived.Lib.SmallJoins
import Derived.Lib.ItoaNum
import Derived.Lib.AppendIntMem
import Derived.Stop.LaidErr
import Derived.Deep.Slices
import Derived.WalkKit
import Derived.ProofKit
import Derived.OpenShut
import Derived.ShutString
import Derived.ChangeOld
import Derived.Below
import Derived.SizedLaws
import Derived.ChangeSame
import Derived.SevenTiedAt
import Derived.Carry
import Derived.LaidMore
import Derived.LaidLaws
import Derived.LaidHandle
import Derived.Stop.Joined
import Derived.Test.YtlkameeaaplonaaDoorZM1
import Derived.Test.YtlkameeaaplonaaDoorZM2
import Derived.Test.YtlkameeaaplonaaDoorZM3
import Derived.Test.YtlkameeaaplonaaDoorZM4
/- Merge and Minus, by measure and by its reference: the same answers for all histograms. -/
namespace Go.Proofs.YtlkameeaaplonaaDoor
open Go.Shelf Go.RowKit Go.Maps Go.Proofs.YtlkameeaaplonaaDoor.QMeasureMergeMatchesSpec
open Go.Proofs.YtlkameeaaplonaaDoorW.PrintWords Go.Proofs.YtlkameeaaplonaaDoorW.PrintLast Go.Proofs.YtlkameeaaplonaaDoorW.PrintMore
set_option linter.unusedVariables false
theorem valid_tell {b : Nat} {l : List S44} (h : Valid b l) : Tell ((b : Int), l, 0) := by
  have h2 := h.b2
  have h8 := h.b8
  have hl := valid_len h
  refine ⟨⟨by show _ ≤ (b : Int); omega, by show (b : Int) ≤ _; omega⟩, ⟨show (-9223372036854775808 : Int) ≤ 0 by decide, show (0 : Int) ≤ 9223372036854775807 by decide⟩, by show l.length ≤ _; omega, fun s hs' => ?_⟩
  have := valid_bound h s hs'
  exact ⟨⟨by omega, by omega⟩, by omega, by omega⟩
/-- Function f of two histograms hands back r. -/
abbrev Both (f : Nat) (a b : Int) (la lb : List S44) (r : Res) : Prop := ∀ (A A2 : Option Addr) (c c2 : Nat) (w : World), Kd.C k44 w A la.length la → la.length ≤ c → Kd.C k44 w A2 lb.length lb → lb.length ≤ c2 → Ans f #[.agg #[.int .i64 a, .slice A la.length c], .agg #[.int .i64 b, .slice A2 lb.length c2]] w r
theorem merge_valid {n : Nat} {la lb : List S44} (hA : Valid n la) (hB : Valid n lb) {e : Int} (hm : Ev (fun k => measure_checkBoth.f k (n : Int) la (n : Int) lb) e) (hr : Ev (fun k => dynamometerref9_pairFault.f k (n : Int) la (n : Int) lb) e) (he : e = 0) :
    (tot la + tot lb ≤ 1125899906842624 → ∃ m, Ev (fun k => dynamometerref9_Merge.f k (n : Int) la (n : Int) lb) ((n : Int), m, 0) ∧ Both 17 n n la lb ((n : Int), m, 0) ∧ IsHist (fun y => hs la y + hs lb y) m ∧ Valid n m) ∧
    (¬ tot la + tot lb ≤ 1125899906842624 → Ev (fun k => dynamometerref9_Merge.f k (n : Int) la (n : Int) lb) (0, [], 3) ∧ Both 17 n n la lb (0, [], 3)) := by
  subst he
  obtain ⟨k0, hk0⟩ := hm.rounds
  refine ⟨fun ht => ?_, fun ht => ⟨rmerge_size hA hB (by omega) hr, fun A A2 c c2 w hC hc hC2 hc2 => ?_⟩⟩
  · obtain ⟨m, h1, h2, h3⟩ := rmerge_ev hA hB ht hr
    refine ⟨m, h1, fun A A2 c c2 w hC hc hC2 hc2 => merge17 (n : Int) _ A A2 c c2 k0 la lb w hC hc hC2 hc2 hk0 (fun W hW => ?_), h2, h3⟩
    refine (merge44g n A A2 c c2 la lb W hA hB (Kd.C_below hC hW) hc (Kd.C_below hC2 hW) hc2 ht).mono ?_
    rintro e w' ⟨P, d, r, rfl, hV, hB', hH⟩
    obtain rfl := hist_unique hH h2
    exact ⟨P, d, rfl, hV, hB'⟩
  · exact merge17 (n : Int) _ A A2 c c2 k0 la lb w hC hc hC2 hc2 hk0 (fun W hW => merge44s n A A2 c c2 la lb W hA hB (Kd.C_below hC hW) hc (Kd.C_below hC2 hW) hc2 (by omega))
theorem merge_both (a b : Int) (la lb : List S44) (ha : ok64 la) (hb : ok64 lb) : ∃ r : Res, Tell r ∧ Ev (fun k => dynamometerref9_Merge.f k a la b lb) r ∧ Both 17 a b la lb r ∧
    (r.2.2 = 0 → ∃ (n : Nat) (m : List S44), a = (n : Int) ∧ b = (n : Int) ∧ Valid n la ∧ Valid n lb ∧ r = ((n : Int), m, 0) ∧ IsHist (fun y => hs la y + hs lb y) m ∧ Valid n m ∧ tot la + tot lb ≤ 1125899906842624) := by
  obtain ⟨e, hm, hr, hg, he⟩ := both_all a b la lb ha hb
  by_cases h0 : e = 0
  · obtain ⟨n, rfl, rfl, hA, hB⟩ := he.1 h0
    obtain ⟨h1, h2⟩ := merge_valid hA hB hm hr h0
    by_cases ht : tot la + tot lb ≤ 1125899906842624
    · obtain ⟨m, h3, h4, h5, h6⟩ := h1 ht
      exact ⟨_, valid_tell h6, h3, h4, fun _ => ⟨n, m, rfl, rfl, hA, hB, rfl, h5, h6, ht⟩⟩
    · obtain ⟨h3, h4⟩ := h2 ht
      exact ⟨_, tell_fault (by decide), h3, h4, fun h => absurd h (by decide)⟩
  · obtain ⟨k0, hk0⟩ := hm.rounds
    refine ⟨(0, [], e), tell_fault hg, ?_, fun A A2 c c2 w hC hc hC2 hc2 => merge17f a b e A A2 c c2 k0 la lb w hC hc hC2 hc2 hk0 (by simpa using h0), fun h => absurd h h0⟩
    obtain ⟨K1, e1⟩ := hr
    refine ⟨K1, fun k hk => ?_⟩
    have f1 := e1 k hk
    simp only at f1 ⊢
    unfold dynamometerref9_Merge.f
    rw [f1, Option.bind_some, if_neg h0]
theorem minus_valid {n : Nat} {la lb : List S44} (hA : Valid n la) (hB : Valid n lb) {e : Int} (hm : Ev (fun k => measure_checkBoth.f k (n : Int) la (n : Int) lb) e) (hr : Ev (fun k => dynamometerref9_pairFault.f k (n : Int) la (n : Int) lb) e) (he : e = 0) :
    ∃ r : Res, Tell r ∧ Ev (fun k => dynamometerref9_Minus.f k (n : Int) la (n : Int) lb) r ∧ Both 22 n n la lb r ∧ ((∀ s ∈ lb, s.f1 ≤ hs la s.f0) → ∃ q, r = ((n : Int), q, 0) ∧ IsHist (fun y => hs la y - hs lb y) q) := by
  subst he
  obtain ⟨k0, hk0⟩ := hm.rounds
  have h0 := fun y => (hsV hB y).1
  have hL := lessL_hist hA.rising h0
  have key : ∀ r : Res, Ev (fun k => dynamometerref9_Minus.l0 k 0 (n : Int) la (n : Int) lb) r → Ev (fun k => dynamometerref9_Minus.f k (n : Int) la (n : Int) lb) r := fun r h => by
    obtain ⟨K1, e1⟩ := h
    obtain ⟨K2, e2⟩ := hr
    refine ⟨K1 + K2, fun k hk => ?_⟩
    have f1 := e1 k (by omega)
    have f2 := e2 k (by omega)
    simp only at f1 f2 ⊢
    unfold dynamometerref9_Minus.f
    rw [f2, Option.bind_some, if_pos rfl]
    exact f1
  rcases minus_l0 hA hB lb.length 0 (by omega) (fun j hj => by omega) with ⟨h1, h2⟩ | ⟨h1, h2⟩
  · refine ⟨(0, [], 9), tell_fault (by decide), key _ h1, fun A A2 c c2 w hC hc hC2 hc2 => ?_, fun h => ?_⟩
    · refine (minus22 n A A2 c c2 k0 la lb w hA hB hC hc hC2 hc2 hk0).mono ?_
      rintro e w' ⟨r, P, d, hr', ⟨rfl, -⟩ | ⟨h3, -⟩⟩
      · exact ⟨P, d, hr'⟩
      · obtain ⟨s, hs', h4⟩ := h2
        have := h3 s hs'
        omega
    · obtain ⟨s, hs', h4⟩ := h2
      have := h s hs'
      omega
  · have hle : ∀ s ∈ lessL lb la, (0 ≤ s.f0 ∧ s.f0 ≤ 6655) ∧ 1 ≤ s.f1 ∧ s.f1 ≤ 1125899906842624 := fun s hs' => by
      obtain ⟨t, ht, e1, e2, e3⟩ := (lessL_mem lb s la).1 hs'
      have h3 := valid_bound hA t ht
      have h4 := h0 t.f0
      rw [e1]
      exact ⟨h3.1, by omega, by omega⟩
    have hlen := lessL_len lb la
    have hl1 := valid_len hA
    have h2b := hA.b2
    have h8b := hA.b8
    refine ⟨((n : Int), lessL lb la, 0), ⟨⟨by show _ ≤ (n : Int); omega, by show (n : Int) ≤ _; omega⟩, ⟨show (-9223372036854775808 : Int) ≤ 0 by decide, show (0 : Int) ≤ 9223372036854775807 by decide⟩, by show (lessL lb la).length ≤ _; omega, fun s hs' => ?_⟩, key _ h1, fun A A2 c c2 w hC hc hC2 hc2 => ?_, fun _ => ⟨_, rfl, hL⟩⟩
    · have := hle s hs'
      exact ⟨⟨by omega, by omega⟩, by omega, by omega⟩
    · refine (minus22 n A A2 c c2 k0 la lb w hA hB hC hc hC2 hc2 hk0).mono ?_
      rintro e w' ⟨r, P, d, hr', ⟨-, s, hs', h3⟩ | ⟨-, q, rfl, hq⟩⟩
      · have := h2 s hs'
        omega
      · obtain rfl := hist_unique hq hL
        exact ⟨P, d, hr'⟩
theorem minus_both (a b : Int) (la lb : List S44) (ha : ok64 la) (hb : ok64 lb) : ∃ r : Res, Tell r ∧ Ev (fun k => dynamometerref9_Minus.f k a la b lb) r ∧ Both 22 a b la lb r := by
  obtain ⟨e, hm, hr, hg, he⟩ := both_all a b la lb ha hb
  by_cases h0 : e = 0
  · obtain ⟨n, rfl, rfl, hA, hB⟩ := he.1 h0
    obtain ⟨r, h1, h2, h3, _⟩ := minus_valid hA hB hm hr h0
    exact ⟨r, h1, h2, h3⟩
  · obtain ⟨k0, hk0⟩ := hm.rounds
    refine ⟨(0, [], e), tell_fault hg, ?_, fun A A2 c c2 w hC hc hC2 hc2 => minus22f a b e A A2 c c2 k0 la lb w hC hc hC2 hc2 hk0 (by simpa using h0)⟩
    obtain ⟨K1, e1⟩ := hr
    refine ⟨K1, fun k hk => ?_⟩
    have f1 := e1 k hk
    simp only at f1 ⊢
    unfold dynamometerref9_Minus.f
    rw [f1, Option.bind_some, if_neg h0]
/-- What Minus takes back. -/
theorem minus_back {n : Nat} {la lb m : List S44} (hA : Valid n la) (hB : Valid n lb) (hM : Valid n m) (hH : IsHist (fun y => hs la y + hs lb y) m) : Both 22 n n m lb ((n : Int), la, 0) := by
  obtain ⟨e, hm, hr, hg, he⟩ := both_all (n : Int) (n : Int) m lb (valid_f0 hM) (valid_f0 hB)
  have hsum := hH.eq (fun y => by have h1 := (hsV hA y).1; have h2 := (hsV hB y).1; omega)
  obtain ⟨r, h1, h2, h3, h4⟩ := minus_valid hM hB hm hr (he.2 ⟨n, rfl, rfl, hM, hB⟩)
  obtain ⟨q, rfl, hq⟩ := h4 (fun s hs' => by
    have h5 := hs_mem lb hB.rising s hs'
    have h6 := (hsV hA s.f0).1
    have h7 := hsum s.f0
    omega)
  obtain rfl := hist_unique (hq.congr (fun y => by have h7 := hsum y; omega)) (isHist_hs hA.rising (fun s hs' => by have := hA.pos s hs'; omega))
  exact h3
/-- Merge does not depend on the order. -/
theorem merge_swap {n : Nat} {la lb m : List S44} (hA : Valid n la) (hB : Valid n lb) (ht : tot la + tot lb ≤ 1125899906842624) (hH : IsHist (fun y => hs la y + hs lb y) m) : Both 17 n n lb la ((n : Int), m, 0) := by
  obtain ⟨e, hm, hr, hg, he⟩ := both_all (n : Int) (n : Int) lb la (valid_f0 hB) (valid_f0 hA)
  obtain ⟨m', h3, h4, h5, h6⟩ := (merge_valid hB hA hm hr (he.2 ⟨n, rfl, rfl, hB, hA⟩)).1 (by omega)
  obtain rfl := hist_unique (h5.congr (fun y => by omega)) hH
  exact h4
end Go.Proofs.YtlkameeaaplonaaDoor

/- counts answers true. Condition: none. -/
namespace Go.Proofs.YtlkameeaaplonaaDoor
open Go.Shelf Go.RowKit Go.Maps Go.Proofs.YtlkameeaaplonaaDoor.QMeasureMergeMatchesSpec
open Go.Proofs.YtlkameeaaplonaaDoorW.PrintWords
theorem bucket3 : ∀ x ∈ ([5, 1, 4] : List Int), measure_bucket.f 3 2 x = some (bk3 x) := by
  intro x hx
  simp only [List.mem_cons, List.not_mem_nil, or_false] at hx
  rcases hx with rfl | rfl | rfl <;> kernel_rfl
set_option maxRecDepth 100000 in
set_option maxHeartbeats 4000000 in
theorem counts10 (w : World) : Calls Tryd.prog 16 #[] w fun e w' => e = .returned (.bool true) ∧ Below w.heap.size w w' := by
  have hC0 : Kd.C (Kd.int .i64) (w.alloc (.cells #[.int .i64 5, .int .i64 1, .int .i64 4] 3)) (some ⟨w.heap.size, 0, none⟩) 3 [5, 1, 4] := by
    have h := World.ownsRow_lit (base := 0) (e := 3) (size := 1) w #[.int .i64 5, .int .i64 1, .int .i64 4] 3 (Nat.zero_le _) (by decide) rfl
    exact (C_own (xs := [5, 1, 4]) (B := 0) ⟨h, by decide⟩).2.2
  go_enter Tryd.func16, Tryd.ntmps16
  go_wp2_with (first
    | (go_at_call 12; refine (Of11 2 3 bk3 (some ⟨w.heap.size, 0, none⟩) 3 3 [5, 1, 4] _ hC0 (by decide) bucket3 (by decide)).mono ?_; rintro e w4 ⟨v4, r4, rfl, hV4, hB4, ht4⟩; obtain rfl := tally_unique ht4 tally3; obtain ⟨A4, c4, rfl⟩ := Kd.V_slice hV4; obtain ⟨ad, rfl, q0, q1⟩ := at_T44 (Kd.C_below (Kd.V_reads' hV4).2.2 ((Below.refl _ w4).alloc (Nat.le_refl _) (.cells #[.int .i64 2, .slice A4 2 c4] 25))) 1 (by decide) (by decide); have q0' : (w4.alloc (.cells #[.int .i64 2, .slice (some ad) 2 c4] 25)).cell? ⟨ad.block, ad.off + 2, none⟩ = some (.int .i64 4) := q0; have q1' : (w4.alloc (.cells #[.int .i64 2, .slice (some ad) 2 c4] 25)).cell? ⟨ad.block, ad.off + 2 + 1, none⟩ = some (.int .i64 2) := q1)
    | go_in)
  go_ret
  refine ⟨rfl, ?_⟩
  have hB0 : Below w.heap.size w (w.alloc (.cells #[.int .i64 5, .int .i64 1, .int .i64 4] 3)) := (Below.refl _ _).alloc (Nat.le_refl _) _
  have hB1 := hB0.trans (Below.mono hB4 (by simp))
  exact hB1.alloc hB1.size _
end Go.Proofs.YtlkameeaaplonaaDoor

/- The walk of the law MeasureMergeMatchesSpec. Conditions: the lists lie in memory as they are read; the table of powers of ten lies below. -/
namespace Go.Proofs.YtlkameeaaplonaaDoor
open Go.Shelf Go.RowKit Go.Maps Go.Proofs.YtlkameeaaplonaaDoor.QMeasureMergeMatchesSpec
open Go.Proofs.YtlkameeaaplonaaDoorW.PrintWords Go.Proofs.YtlkameeaaplonaaDoorW.PrintLast Go.Proofs.YtlkameeaaplonaaDoorW.PrintMore
set_option linter.unusedVariables false
/-- The two boxes of the law. -/
structure In2 (w W0 : World) (a b : Int) (A A2 : Option Addr) (n c n2 c2 : Nat) : Prop where
  below : Below w.heap.size w W0
  size : W0.heap.size = w.heap.size + 2
  h0 : W0.heap[w.heap.size]? = some (hbx a A n c)
  h1 : W0.heap[w.heap.size + 1]? = some (hbx b A2 n2 c2)
theorem in2 (w : World) (a b : Int) (A A2 : Option Addr) (n c n2 c2 : Nat) : In2 w ((w.alloc (.cells #[.int .i64 a, .slice A n c] 25)).alloc (.cells #[.int .i64 b, .slice A2 n2 c2] 25)) a b A A2 n c n2 c2 :=
  ⟨((Below.refl _ w).alloc (Nat.le_refl _) _).alloc (by simp) _, by simp,
    (Below.heap_alloc _ _ _ (by simp)).trans (heap_alloc_new w _),
    by have := heap_alloc_new (w.alloc (.cells #[.int .i64 a, .slice A n c] 25)) (.cells #[.int .i64 b, .slice A2 n2 c2] 25); simpa using this⟩
abbrev CellsAt (W : World) (g : Nat) (a : Int) (A : Option Addr) (n c : Nat) : Prop := W.cell? ⟨g, 0, none⟩ = some (.int .i64 a) ∧ W.cell? ⟨g, 1, none⟩ = some (.slice A n c)
set_option maxRecDepth 100000 in
set_option maxHeartbeats 8000000 in
theorem law7e (a b : Int) (A A2 : Option Addr) (c c2 : Nat) (la lb : List S44) (w : World) (r q : Res) (k1 k2 : Nat) (hC : Kd.C k44 w A la.length la) (hc : la.length ≤ c) (hC2 : Kd.C k44 w A2 lb.length lb) (hc2 : lb.length ≤ c2) (htab : Pow10 w)
    (hT : Tell r) (hR : dynamometerref9_Merge.f k1 a la b lb = some (r.1, r.2.1, r.2.2)) (hM : Both 17 a b la lb r) (hTq : Tell q) (hRq : dynamometerref9_Minus.f k2 a la b lb = some (q.1, q.2.1, q.2.2)) (hMq : Both 22 a b la lb q) (he : (r.2.2 == 0) = false) :
    Calls Tryd.prog 7 #[.agg #[.int .i64 a, .slice A la.length c], .agg #[.int .i64 b, .slice A2 lb.length c2]] w fun e w' => e = .returned (.bool true) ∧ Below w.heap.size w w' := by
  obtain ⟨W0, hW0⟩ : ∃ W0, (w.alloc (.cells #[.int .i64 a, .slice A la.length c] 25)).alloc (.cells #[.int .i64 b, .slice A2 lb.length c2] 25) = W0 := ⟨_, rfl⟩
  have hI : In2 w W0 a b A A2 la.length c lb.length c2 := by rw [← hW0]; exact in2 w a b A A2 la.length c lb.length c2
  obtain ⟨f0, f1⟩ := bx_cells hI.h0
  obtain ⟨f2, f3⟩ := bx_cells hI.h1
  have a1 := hM A A2 c c2 W0 (Kd.C_below hC hI.below) hc (Kd.C_below hC2 hI.below) hc2
  go_enter Tryd.func7, Tryd.ntmps7
  go_wp2_with (first
    | (go_at_call 17; refine a1.mono ?_; clear a1; rintro e w1 ⟨P1, d1, rfl, hd1, hC1, hB1⟩)
    | go_in)
  clear hW0
  obtain ⟨U1, hE⟩ : ∃ U, w1.alloc (.cells #[.int .i64 r.1, .slice P1 r.2.1.length d1] 25) = U := ⟨_, rfl⟩
  rw [hE]
  have hBU : Below W0.heap.size W0 U1 := by rw [← hE]; exact hB1.alloc hB1.size _
  have hU : Below w.heap.size w U1 := hI.below.trans (Below.mono hBU (by have := hI.size; omega))
  have g0 : U1.heap[w.heap.size]? = some (hbx a A la.length c) := (hBU.block _ (by have := hI.size; omega)).trans hI.h0
  have g1 : U1.heap[w.heap.size + 1]? = some (hbx b A2 lb.length c2) := (hBU.block _ (by have := hI.size; omega)).trans hI.h1
  have g2 : U1.heap[w1.heap.size]? = some (hbx r.1 P1 r.2.1.length d1) := by rw [← hE]; exact bx_alloc w1 _ _ _ _
  have gs : w1.heap.size < U1.heap.size := by rw [← hE]; simp
  have gC : Kd.C k44 U1 P1 r.2.1.length r.2.1 := by rw [← hE]; exact Kd.C_below hC1 ((Below.refl _ _).alloc (Nat.le_refl _) _)
  have hws := hI.size
  have hwu := hBU.size
  have hfr : ∀ W : World, Below U1.heap.size U1 W → CellsAt W w.heap.size a A la.length c ∧ CellsAt W (w.heap.size + 1) b A2 lb.length c2 ∧ CellsAt W w1.heap.size r.1 P1 r.2.1.length d1 ∧ Below U1.heap.size U1 W := fun W h =>
    ⟨bx_cells ((h.block _ (by omega)).trans g0), bx_cells ((h.block _ (by omega)).trans g1), bx_cells ((h.block _ gs).trans g2), h⟩
  have hUp : ∀ W, Below U1.heap.size U1 W → Below w.heap.size w W := fun W h => hU.trans (Below.mono h hU.size)
  have hCa : ∀ W, Below U1.heap.size U1 W → Kd.C k44 W A la.length la := fun W h => Kd.C_below hC (hUp W h)
  have hCb : ∀ W, Below U1.heap.size U1 W → Kd.C k44 W A2 lb.length lb := fun W h => Kd.C_below hC2 (hUp W h)
  have a2 := fun W (h : Below U1.heap.size U1 W) => ans_of_R (dynamometerref9_Merge.calls k1 a A c la b A2 c2 lb r.1 r.2.1 r.2.2 W (hCa W h) hc (hCb W h) hc2 hR)
  have a3 := fun W (h : Below U1.heap.size U1 W) => hMq A A2 c c2 W (hCa W h) hc (hCb W h) hc2
  have a4 := fun W (h : Below U1.heap.size U1 W) => ans_of_R (dynamometerref9_Minus.calls k2 a A c la b A2 c2 lb q.1 q.2.1 q.2.2 W (hCa W h) hc (hCb W h) hc2 hRq)
  have t1 := fun {W : World} {P : Option Addr} {d : Nat} (hC : Kd.C k44 W P r.2.1.length r.2.1) (h : Below U1.heap.size U1 W) => tellRes r hT (d := d) hC (hUp W h) htab
  have t2 := fun {W : World} {P : Option Addr} {d : Nat} (hC : Kd.C k44 W P q.2.1.length q.2.1) (h : Below U1.heap.size U1 W) => tellRes q hTq (d := d) hC (hUp W h) htab
  have hBd := (Below.refl U1.heap.size U1).drew
  have hS0 := hfr U1.drew hBd
  have hC0 : Kd.C k44 U1.drew P1 r.2.1.length r.2.1 := Kd.C_below gC (show Below U1.heap.size U1 U1.drew from hBd)
  have up1 : ∀ {W W' : World}, Below U1.heap.size U1 W → Below W.heap.size W W' → Below U1.heap.size U1 W' := fun h h' => h.trans (Below.mono h' h.size)
  clear hE hR hRq hM hMq hT hTq hC hC2 hCa hCb hC1 hB1 hBU g0 g1 g2 gs gC f0 f1 f2 f3 hI hws hwu
  go_region_held3 (fun W => CellsAt W w.heap.size a A la.length c ∧ CellsAt W (w.heap.size + 1) b A2 lb.length c2 ∧ CellsAt W w1.heap.size r.1 P1 r.2.1.length d1 ∧ Below U1.heap.size U1 W) (first | assumption | exact hS0)
    (first | (go_at_call 11; refine (t2 hC6 hS6.2.2.2).mono ?_; rintro e v7 ⟨rfl, hBt⟩; have hS7 := hfr v7 (up1 hS6.2.2.2 hBt))
           | (go_at_call 23; refine (a4 v5 hS5.2.2.2).mono ?_; rintro e v6 ⟨P6, d6, rfl, hd6, hC6, hBt⟩; have hS6 := hfr v6 (up1 hS5.2.2.2 hBt))
           | (go_at_call 11; refine (t2 hC4 hS4.2.2.2).mono ?_; rintro e v5 ⟨rfl, hBt⟩; have hS5 := hfr v5 (up1 hS4.2.2.2 hBt))
           | (go_at_call 22; refine (a3 v3 hS3.2.2.2).mono ?_; rintro e v4 ⟨P4, d4, rfl, hd4, hC4, hBt⟩; have hS4 := hfr v4 (up1 hS3.2.2.2 hBt))
           | (go_at_call 11; refine (t1 hC2 hS2.2.2.2).mono ?_; rintro e v3 ⟨rfl, hBt⟩; have hS3 := hfr v3 (up1 hS2.2.2.2 hBt))
           | (go_at_call 21; refine (a2 v1 hS1.2.2.2).mono ?_; rintro e v2 ⟨P2, d2, rfl, hd2, hC2, hBt⟩; have hS2 := hfr v2 (up1 hS1.2.2.2 hBt))
           | (go_at_call 11; refine (t1 hC0 hBd).mono ?_; rintro e v1 ⟨rfl, hBt⟩; have hS1 := hfr v1 (up1 hBd hBt)))
  go_wp2_with (first
    | (go_at_call 16; refine (counts10 _).mono ?_; rintro e v8 ⟨rfl, hB8⟩)
    | go_in)
  go_ret
  exact ⟨rfl, hUp _ (up1 hS7.2.2.2 hB8)⟩
set_option maxRecDepth 100000 in
set_option maxHeartbeats 8000000 in
theorem law7g (n : Nat) (m : List S44) (A A2 : Option Addr) (c c2 : Nat) (la lb : List S44) (w : World) (q : Res) (k1 k2 : Nat) (hC : Kd.C k44 w A la.length la) (hc : la.length ≤ c) (hC2 : Kd.C k44 w A2 lb.length lb) (hc2 : lb.length ≤ c2) (htab : Pow10 w)
    (hT : Tell ((n : Int), m, 0)) (hR : dynamometerref9_Merge.f k1 (n : Int) la (n : Int) lb = some ((n : Int), m, 0)) (hM : Both 17 n n la lb ((n : Int), m, 0)) (hTq : Tell q) (hRq : dynamometerref9_Minus.f k2 (n : Int) la (n : Int) lb = some (q.1, q.2.1, q.2.2)) (hMq : Both 22 n n la lb q) (hSw : Both 17 n n lb la ((n : Int), m, 0)) (hBk : Both 22 n n m lb ((n : Int), la, 0)) (hTa : Tell ((n : Int), la, 0)) :
    Calls Tryd.prog 7 #[.agg #[.int .i64 (n : Int), .slice A la.length c], .agg #[.int .i64 (n : Int), .slice A2 lb.length c2]] w fun e w' => e = .returned (.bool true) ∧ Below w.heap.size w w' := by
  obtain ⟨W0, hW0⟩ : ∃ W0, (w.alloc (.cells #[.int .i64 (n : Int), .slice A la.length c] 25)).alloc (.cells #[.int .i64 (n : Int), .slice A2 lb.length c2] 25) = W0 := ⟨_, rfl⟩
  have hI : In2 w W0 (n : Int) (n : Int) A A2 la.length c lb.length c2 := by rw [← hW0]; exact in2 w (n : Int) (n : Int) A A2 la.length c lb.length c2
  obtain ⟨f0, f1⟩ := bx_cells hI.h0
  obtain ⟨f2, f3⟩ := bx_cells hI.h1
  have a1 := hM A A2 c c2 W0 (Kd.C_below hC hI.below) hc (Kd.C_below hC2 hI.below) hc2
  go_enter Tryd.func7, Tryd.ntmps7
  go_wp2_with (first
    | (go_at_call 17; refine a1.mono ?_; clear a1; rintro e w1 ⟨P1, d1, rfl, hd1, hC1, hB1⟩)
    | go_in)
  clear hW0
  obtain ⟨U1, hE⟩ : ∃ U, w1.alloc (.cells #[.int .i64 (n : Int), .slice P1 m.length d1] 25) = U := ⟨_, rfl⟩
  rw [hE]
  have hBU : Below W0.heap.size W0 U1 := by rw [← hE]; exact hB1.alloc hB1.size _
  have hU : Below w.heap.size w U1 := hI.below.trans (Below.mono hBU (by have := hI.size; omega))
  have g0 : U1.heap[w.heap.size]? = some (hbx (n : Int) A la.length c) := (hBU.block _ (by have := hI.size; omega)).trans hI.h0
  have g1 : U1.heap[w.heap.size + 1]? = some (hbx (n : Int) A2 lb.length c2) := (hBU.block _ (by have := hI.size; omega)).trans hI.h1
  have g2 : U1.heap[w1.heap.size]? = some (hbx (n : Int) P1 m.length d1) := by rw [← hE]; exact bx_alloc w1 _ _ _ _
  have gs : w1.heap.size < U1.heap.size := by rw [← hE]; simp
  have gC : Kd.C k44 U1 P1 m.length m := by rw [← hE]; exact Kd.C_below hC1 ((Below.refl _ _).alloc (Nat.le_refl _) _)
  have hws := hI.size
  have hwu := hBU.size
  have hfr : ∀ W : World, Below U1.heap.size U1 W → CellsAt W w.heap.size (n : Int) A la.length c ∧ CellsAt W (w.heap.size + 1) (n : Int) A2 lb.length c2 ∧ CellsAt W w1.heap.size (n : Int) P1 m.length d1 ∧ Below U1.heap.size U1 W := fun W h =>
    ⟨bx_cells ((h.block _ (by omega)).trans g0), bx_cells ((h.block _ (by omega)).trans g1), bx_cells ((h.block _ gs).trans g2), h⟩
  have hUp : ∀ W, Below U1.heap.size U1 W → Below w.heap.size w W := fun W h => hU.trans (Below.mono h hU.size)
  have hCa : ∀ W, Below U1.heap.size U1 W → Kd.C k44 W A la.length la := fun W h => Kd.C_below hC (hUp W h)
  have hCb : ∀ W, Below U1.heap.size U1 W → Kd.C k44 W A2 lb.length lb := fun W h => Kd.C_below hC2 (hUp W h)
  have a2 := fun W (h : Below U1.heap.size U1 W) => ans_of_R (r := ((n : Int), m, 0)) (dynamometerref9_Merge.calls k1 (n : Int) A c la (n : Int) A2 c2 lb (n : Int) m 0 W (hCa W h) hc (hCb W h) hc2 hR)
  have a3 := fun W (h : Below U1.heap.size U1 W) => hMq A A2 c c2 W (hCa W h) hc (hCb W h) hc2
  have a4 := fun W (h : Below U1.heap.size U1 W) => ans_of_R (dynamometerref9_Minus.calls k2 (n : Int) A c la (n : Int) A2 c2 lb q.1 q.2.1 q.2.2 W (hCa W h) hc (hCb W h) hc2 hRq)
  have t1 := fun {W : World} {P : Option Addr} {d : Nat} (hC : Kd.C k44 W P m.length m) (h : Below U1.heap.size U1 W) => tellRes ((n : Int), m, 0) hT (d := d) hC (hUp W h) htab
  have t2 := fun {W : World} {P : Option Addr} {d : Nat} (hC : Kd.C k44 W P q.2.1.length q.2.1) (h : Below U1.heap.size U1 W) => tellRes q hTq (d := d) hC (hUp W h) htab
  have hBd := (Below.refl U1.heap.size U1).drew
  have hS0 := hfr U1.drew hBd
  have hC0 : Kd.C k44 U1.drew P1 m.length m := Kd.C_below gC (show Below U1.heap.size U1 U1.drew from hBd)
  have up1 : ∀ {W W' : World}, Below U1.heap.size U1 W → Below W.heap.size W W' → Below U1.heap.size U1 W' := fun h h' => h.trans (Below.mono h' h.size)
  clear hE hR hRq hM hMq hT hTq hC hC2 hC1 hB1 hBU g0 g1 g2 f0 f1 f2 f3 hI hws hwu
  go_region_held3 (fun W => CellsAt W w.heap.size (n : Int) A la.length c ∧ CellsAt W (w.heap.size + 1) (n : Int) A2 lb.length c2 ∧ CellsAt W w1.heap.size (n : Int) P1 m.length d1 ∧ Below U1.heap.size U1 W) (first | assumption | exact hS0)
    (first | (go_at_call 11; refine (t2 hC6 hS6.2.2.2).mono ?_; rintro e v7 ⟨rfl, hBt⟩; have hS7 := hfr v7 (up1 hS6.2.2.2 hBt))
           | (go_at_call 23; refine (a4 v5 hS5.2.2.2).mono ?_; rintro e v6 ⟨P6, d6, rfl, hd6, hC6, hBt⟩; have hS6 := hfr v6 (up1 hS5.2.2.2 hBt))
           | (go_at_call 11; refine (t2 hC4 hS4.2.2.2).mono ?_; rintro e v5 ⟨rfl, hBt⟩; have hS5 := hfr v5 (up1 hS4.2.2.2 hBt))
           | (go_at_call 22; refine (a3 v3 hS3.2.2.2).mono ?_; rintro e v4 ⟨P4, d4, rfl, hd4, hC4, hBt⟩; have hS4 := hfr v4 (up1 hS3.2.2.2 hBt))
           | (go_at_call 11; refine (t1 hC2 hS2.2.2.2).mono ?_; rintro e v3 ⟨rfl, hBt⟩; have hS3 := hfr v3 (up1 hS2.2.2.2 hBt))
           | (go_at_call 21; refine (a2 v1 hS1.2.2.2).mono ?_; rintro e v2 ⟨P2, d2, rfl, hd2, hC2, hBt⟩; have hS2 := hfr v2 (up1 hS1.2.2.2 hBt))
           | (go_at_call 11; refine (t1 hC0 hBd).mono ?_; rintro e v1 ⟨rfl, hBt⟩; have hS1 := hfr v1 (up1 hBd hBt)))
  have hB7 := hS7.2.2.2
  obtain ⟨⟨x0, x1⟩, ⟨x2, x3⟩, ⟨x4, x5⟩, -⟩ := hS7
  have s1 := fun W (h : Below U1.heap.size U1 W) => hSw A2 A c2 c W (hCb W h) hc2 (hCa W h) hc
  have gCW := fun W (h : Below U1.heap.size U1 W) => Kd.C_below gC h
  clear hS0 hS1 hS2 hS3 hS4 hS5 hS6 a2 a3 a4 hC0 t2
  go_wp2_with (first
    | (go_at_call 22; refine (hBk P1 A2 d1 c2 _ (gCW _ hB9) hd1 (hCb _ hB9) hc2).mono ?_; rintro e w10 ⟨P10, d10, rfl, hd10, hC10, hBt10⟩; have hB10 := up1 hB9 hBt10)
    | (go_at_call 17; refine (s1 v7 hB7).mono ?_; rintro e w9 ⟨P9, d9, rfl, hd9, hC9, hBt9⟩; have hB9' := up1 hB7 hBt9; have hB9 := hB9'.alloc hB9'.size (.cells #[.int .i64 (n : Int), .slice P9 m.length d9] 25); obtain ⟨⟨y0, y1⟩, ⟨y2, y3⟩, ⟨y4, y5⟩, -⟩ := hfr _ hB9)
    | go_in)
  obtain ⟨U3, hE⟩ : ∃ U, w10.alloc (.cells #[.int .i64 (n : Int), .slice P10 la.length d10] 25) = U := ⟨_, rfl⟩
  rw [hE]
  have hB3 : Below U1.heap.size U1 U3 := by rw [← hE]; exact hB10.alloc hB10.size _
  have z9 : (w9.alloc (.cells #[.int .i64 (n : Int), .slice P9 m.length d9] 25)).heap[w9.heap.size]? = some (hbx (n : Int) P9 m.length d9) := bx_alloc w9 _ _ _ _
  have z9s : w9.heap.size < (w9.alloc (.cells #[.int .i64 (n : Int), .slice P9 m.length d9] 25)).heap.size := by simp
  have z9' : U3.heap[w9.heap.size]? = some (hbx (n : Int) P9 m.length d9) := by rw [← hE]; exact (Below.heap_alloc _ _ _ (by have := hBt10.size; omega)).trans ((hBt10.block _ z9s).trans z9)
  have z10 : U3.heap[w10.heap.size]? = some (hbx (n : Int) P10 la.length d10) := by rw [← hE]; exact bx_alloc w10 _ _ _ _
  have z9l : w9.heap.size < U3.heap.size := by rw [← hE]; have := hBt10.size; simp; omega
  have z10l : w10.heap.size < U3.heap.size := by rw [← hE]; simp
  have c9 : Kd.C k44 U3 P9 m.length m := by rw [← hE]; exact Kd.C_below (Kd.C_below (Kd.C_below hC9 ((Below.refl _ _).alloc (Nat.le_refl _) _)) hBt10) ((Below.refl _ _).alloc (Nat.le_refl _) _)
  have c10 : Kd.C k44 U3 P10 la.length la := by rw [← hE]; exact Kd.C_below hC10 ((Below.refl _ _).alloc (Nat.le_refl _) _)
  have up3 : ∀ {W : World}, Below U3.heap.size U3 W → Below U1.heap.size U1 W := fun h => hB3.trans (Below.mono h hB3.size)
  have hfr3 : ∀ W : World, Below U3.heap.size U3 W → (CellsAt W w.heap.size (n : Int) A la.length c ∧ CellsAt W w1.heap.size (n : Int) P1 m.length d1) ∧ CellsAt W w9.heap.size (n : Int) P9 m.length d9 ∧ CellsAt W w10.heap.size (n : Int) P10 la.length d10 ∧ Below U3.heap.size U3 W := fun W h =>
    ⟨⟨(hfr W (up3 h)).1, (hfr W (up3 h)).2.2.1⟩, bx_cells ((h.block _ z9l).trans z9'), bx_cells ((h.block _ z10l).trans z10), h⟩
  have tN := fun W (h : Below U3.heap.size U3 W) => t1 (Kd.C_below c9 h : Kd.C k44 W P9 m.length m) (d := d9) (up3 h)
  have tM := fun W (h : Below U3.heap.size U3 W) => t1 (gCW W (up3 h)) (d := d1) (up3 h)
  have tB := fun W (h : Below U3.heap.size U3 W) => tellRes ((n : Int), la, 0) hTa (d := d10) (Kd.C_below c10 h : Kd.C k44 W P10 la.length la) (hUp W (up3 h)) htab
  have tA := fun W (h : Below U3.heap.size U3 W) => tellRes ((n : Int), la, 0) hTa (d := c) (hCa W (up3 h)) (hUp W (up3 h)) htab
  have hBd3 := (Below.refl U3.heap.size U3).drew
  have hS0 := hfr3 U3.drew hBd3
  have up4 : ∀ {W W' : World}, Below U3.heap.size U3 W → Below W.heap.size W W' → Below U3.heap.size U3 W' := fun h h' => h.trans (Below.mono h' h.size)
  clear hE hB9 hB9' hB10 hBt9 hBt10 z9 z9s z9' z10 z9l z10l c9 c10 hC9 hC10 x0 x1 x2 x3 x4 x5 y0 y1 y2 y3 y4 y5 hfr hSw hBk s1 hCa hCb t1 gCW gC
  go_region_held3 (fun W => (CellsAt W w.heap.size (n : Int) A la.length c ∧ CellsAt W w1.heap.size (n : Int) P1 m.length d1) ∧ CellsAt W w9.heap.size (n : Int) P9 m.length d9 ∧ CellsAt W w10.heap.size (n : Int) P10 la.length d10 ∧ Below U3.heap.size U3 W) (first | assumption | exact hS0)
    (first | (go_at_call 11; refine (tA u3 hS3.2.2.2).mono ?_; rintro e u4 ⟨rfl, hBt⟩; have hS4 := hfr3 u4 (up4 hS3.2.2.2 hBt))
           | (go_at_call 11; refine (tB u2 hS2.2.2.2).mono ?_; rintro e u3 ⟨rfl, hBt⟩; have hS3 := hfr3 u3 (up4 hS2.2.2.2 hBt))
           | (go_at_call 11; refine (tM u1 hS1.2.2.2).mono ?_; rintro e u2 ⟨rfl, hBt⟩; have hS2 := hfr3 u2 (up4 hS1.2.2.2 hBt))
           | (go_at_call 11; refine (tN _ hBd3).mono ?_; rintro e u1 ⟨rfl, hBt⟩; have hS1 := hfr3 u1 (up4 hBd3 hBt)))
  go_wp2_with (first
    | (go_at_call 16; refine (counts10 _).mono ?_; rintro e u5 ⟨rfl, hB8⟩)
    | go_in)
  go_ret
  exact ⟨rfl, hUp _ (up3 (up4 hS4.2.2.2 hB8))⟩
/-- The law. -/
theorem law7 (a b : Int) (A A2 : Option Addr) (c c2 : Nat) (la lb : List S44) (w : World) (hC : Kd.C k44 w A la.length la) (hc : la.length ≤ c) (hC2 : Kd.C k44 w A2 lb.length lb) (hc2 : lb.length ≤ c2) (ha : ok64 la) (hb : ok64 lb) (htab : Pow10 w) :
    Calls Tryd.prog 7 #[.agg #[.int .i64 a, .slice A la.length c], .agg #[.int .i64 b, .slice A2 lb.length c2]] w fun e w' => e = .returned (.bool true) ∧ Below w.heap.size w w' := by
  obtain ⟨r, hT, hR, hM, hr⟩ := merge_both a b la lb ha hb
  obtain ⟨q, hTq, hRq, hMq⟩ := minus_both a b la lb ha hb
  obtain ⟨k1, hk1⟩ := hR.rounds
  obtain ⟨k2, hk2⟩ := hRq.rounds
  by_cases h0 : r.2.2 = 0
  · obtain ⟨n, m, rfl, rfl, hA, hB, rfl, hH, hV, ht⟩ := hr h0
    exact law7g n m A A2 c c2 la lb w q k1 k2 hC hc hC2 hc2 htab hT hk1 hM hTq hk2 hMq (merge_swap hA hB ht hH) (minus_back hA hB hV hH) (valid_tell hA)
  · exact law7e a b A A2 c c2 la lb w r q k1 k2 hC hc hC2 hc2 htab hT hk1 hM hTq hk2 hMq (by simpa using h0)
end Go.Proofs.YtlkameeaaplonaaDoor

/- What a row opens: ints, lists of ints, histograms; the table of powers of ten out of the row's list. Condition: none. -/
namespace Go.Proofs.YtlkameeaaplonaaDoor.DRow
open Go.ChangeShapes Go.WideShapes Go.ChangeAt Go.RowKit Go.Deep Go.Proofs.YtlkameeaaplonaaDoor.QMeasureMergeMatchesSpec
open Go.Proofs.YtlkameeaaplonaaDoorW.PrintWords
set_option linter.unusedVariables false
section
variable {H : Type} {enc : TypeId × Value → H} {w : World} {base : Nat} {spare : Nat → Bool} {held : Bool}
/-- A slice, from its cells; its elements by their own law. -/
theorem slice_open {α : Type} (d : Kd α) (Q : α → Prop) {t e : TypeId} (ht : Tryd.prog.underlying t = some (.slice e)) (hc : Tryd.prog.cellsOf e = d.sz)
    (elem : ∀ {fuel : Nat} {cs : List Value} {x : DataW H × List MemPlace}, DataW.trod enc Tryd.prog w base spare held fuel e cs = some x → ∃ s : α, d.K w s cs ∧ Q s)
    {fuel : Nat} {cs : List Value} {x : DataW H × List MemPlace} (hf : DataW.trod enc Tryd.prog w base spare held fuel t cs = some x) :
    ∃ (a : Option Addr) (len cap : Nat) (l : List α), cs = [.slice a len cap] ∧ l.length = len ∧ len ≤ cap ∧ Kd.C d w a len l ∧ ∀ s ∈ l, Q s := by
  rcases open_slice ht hf with ⟨hcs, _⟩ | ⟨x, ln, c, m, n, D, Pl, hcs, _, hl, hm, hmm, _, hx⟩
  · exact ⟨none, 0, 0, [], hcs, rfl, Nat.le_refl _, ⟨rfl, by omega, fun h => absurd h (by omega)⟩, by simp⟩
  · have hlm : ln ≤ m := by rw [hmm]; split <;> omega
    have each : ∀ i, i < ln → ∃ (s : α) (cs' : List Value), w.cells? base (x.add (i * d.sz)) d.sz = some cs' ∧ d.K w s cs' ∧ Q s := by
      intro i hi
      obtain ⟨cs', h1, h2⟩ := hx i (by omega)
      obtain ⟨s, hs⟩ := elem h2
      rw [hc] at h1
      exact ⟨s, cs', h1, hs⟩
    have hsome : ∀ n : Nat, n ≤ ln → ∃ l : List α, l.length = n ∧ (∀ i s, l[i]? = some s → ∃ cs', w.cells? base (x.add (i * d.sz)) d.sz = some cs' ∧ d.K w s cs') ∧ ∀ s ∈ l, Q s := by
      intro n
      induction n with
      | zero => intro _; exact ⟨[], rfl, by simp, by simp⟩
      | succ n ih =>
        intro hn
        obtain ⟨l, h1, h2, h3⟩ := ih (by omega)
        obtain ⟨s, cs', hs, hk, hq⟩ := each n (by omega)
        refine ⟨l ++ [s], by simp [h1], fun i t ht => ?_, fun t ht => ?_⟩
        · by_cases hi : i < l.length
          · rw [List.getElem?_append_left hi] at ht
            exact h2 i t ht
          · rw [List.getElem?_append_right (by omega)] at ht
            have hi' : i = n := by
              have := (List.getElem?_eq_some_iff.1 ht).1
              simp at this
              omega
            subst hi'
            rw [h1, Nat.sub_self] at ht
            simp at ht
            subst ht
            exact ⟨cs', hs, hk⟩
        · rcases List.mem_append.1 ht with h | h
          · exact h3 t h
          · obtain rfl := List.mem_singleton.1 h
            exact hq
    obtain ⟨l, h1, h2, h3⟩ := hsome ln (Nat.le_refl _)
    refine ⟨some x, ln, c, l, hcs, h1, hl, ⟨h1, by unfold maxLen at hm; omega, fun _ => ⟨x, rfl, fun j s hj => ?_⟩⟩, h3⟩
    obtain ⟨cs', h3, h4⟩ := h2 j s hj
    obtain ⟨_, hlen, hcell⟩ := World.cells?_some h3
    refine ⟨cs', d.K_len h4, h4, fun i u hu => ?_⟩
    have hi : i < d.sz := by have := (List.getElem?_eq_some_iff.1 hu).1; rw [d.K_len h4] at this; exact this
    have := hcell i hi
    rw [hu, Go.Deep.add_add] at this
    exact this
abbrev wf64 (s : Int) : Prop := (Lit.int .i64 s).wf = true
theorem int_open {fuel : Nat} {cs : List Value} {x : DataW H × List MemPlace} (h : DataW.trod enc Tryd.prog w base spare held fuel 3 cs = some x) : ∃ s : Int, (Kd.int .i64).K w s cs ∧ wf64 s := by
  obtain ⟨n0, e0, _, hw⟩ := DataW.trod_int Tryd.underlying3 h
  exact ⟨n0, e0, hw⟩
/-- A list of ints, from what is read. -/
theorem ints_open {a : Option Addr} {len cap : Nat} {d : DataW H} {ps : List MemPlace} (h : DataW.Trod enc Tryd.prog w base spare held 22 (.slice a len cap) d ps) :
    ∃ l : List Int, l.length = len ∧ len ≤ cap ∧ Kd.C (Kd.int .i64) w a len l ∧ ∀ s ∈ l, wf64 s := by
  obtain ⟨fuel, hf⟩ := h
  obtain ⟨a', len', cap', l, e, h1, h2, h3, h4⟩ := slice_open (Kd.int .i64) wf64 Tryd.underlying22 (by kernel_rfl) (fun h => int_open h) hf
  simp [Value.cells] at e
  obtain ⟨rfl, rfl, rfl⟩ := e
  exact ⟨l, h1, h2, h3, h4⟩
theorem count_open {fuel : Nat} {cs : List Value} {x : DataW H × List MemPlace} (h : DataW.trod enc Tryd.prog w base spare held fuel 44 cs = some x) : ∃ s : S44, k44.K w s cs ∧ (wf64 s.f0 ∧ wf64 s.f1) := by
  obtain ⟨xs, k, _, _, hlen, hxl, hf⟩ := DataW.trod_struct Tryd.underlying44 h
  have hc : Tryd.prog.cellsOf 44 = 2 := by kernel_rfl
  have hc3 : Tryd.prog.cellsOf 3 = 1 := by kernel_rfl
  rw [hc] at hlen
  have hxl' : xs.length = 2 := hxl
  clear hxl
  have e2 : ∀ {α : Type} (l : List α), l.length = 2 → ∃ a b, l = [a, b] := by
    intro α l hl
    rcases l with _ | ⟨a, _ | ⟨b, _ | ⟨c, l⟩⟩⟩ <;> simp at hl
    exact ⟨a, b, rfl⟩
  obtain ⟨v0, v1, rfl⟩ := e2 cs hlen
  obtain ⟨y0, y1, rfl⟩ := e2 xs hxl'
  have g0 := hf 0 _ rfl
  have g1 := hf 1 _ rfl
  simp [hc3] at g0 g1
  obtain ⟨s0, e0, _, q0⟩ := DataW.trod_int Tryd.underlying3 g0
  obtain ⟨s1, e1, _, q1⟩ := DataW.trod_int Tryd.underlying3 g1
  simp at e0 e1
  exact ⟨⟨s0, s1⟩, by rw [e0, e1]; exact k44_mk w ⟨s0, s1⟩, q0, q1⟩
/-- A histogram, from what is read. -/
theorem hist_open {r : Reach} {b0 : Nat} {v : Value} {d : DataW H} {p : List MemPlace} (hv : Value.okWide Tryd.prog w r b0 25 v) (h : DataW.Trod enc Tryd.prog w base spare held 25 v d p) :
    ∃ (bits : Int) (a : Option Addr) (l : List S44) (cap : Nat), v = .agg #[.int .i64 bits, .slice a l.length cap] ∧ l.length ≤ cap ∧ wf64 bits ∧ Kd.C k44 w a l.length l ∧ ∀ s ∈ l, wf64 s.f0 ∧ wf64 s.f1 := by
  obtain ⟨v0, v1, y0, y1, n, rfl, _, _, h0, h1⟩ := Joins.open_agg2 Tryd.underlying25 (by kernel_rfl) (by kernel_rfl) hv h
  obtain ⟨bits, e0, _, hw⟩ := DataW.trod_int Tryd.underlying3 h0
  obtain ⟨a, len, cap, l, e1, rfl, h2, h3, h4⟩ := slice_open k44 (fun s => wf64 s.f0 ∧ wf64 s.f1) Tryd.underlying23 (by kernel_rfl) (fun h => count_open h) h1
  simp at e0 e1
  subst e0 e1
  exact ⟨bits, a, l, cap, rfl, h2, hw, h3, h4⟩
end
theorem own : ownKnob Tryd.prog.godebug = none := by kernel_rfl
theorem laidOut : laidOutB Tryd.prog = true := by kernel_rfl
/-- The list of each row of this seat. -/
def laid : List (String × DataW Unit) := [("math/bits.deBruijn32tab", Rows.laid_math_bits_deBruijn32tab), ("math/bits.deBruijn64tab", Rows.laid_math_bits_deBruijn64tab), ("internal/strconv.uint64pow10", Rows.laid_internal_strconv_uint64pow10)]
theorem pow10_eq : (Rows.laid_internal_strconv_uint64pow10 : DataW Unit) = Lib.tabData .u64 Lib.pow10Tab := by kernel_rfl
theorem table {W : World} (h : laidMetH Tryd.prog laid W) : Lib.TabBelow Tryd.prog W.heap.size W "internal/strconv.uint64pow10" .u64 Lib.pow10Tab := by
  rw [MakeChecks.laidMetH_plain _ _ _ (by kernel_rfl)] at h
  have h3 := h.tail.tail
  rw [pow10_eq] at h3
  exact Lib.tabBelow_of_tabIs (Lib.tabIs_of_head (rest := []) (g := 0) (t := 94) (e := 78) (n := 20) (by kernel_rfl) (by kernel_rfl) Tryd.underlying94 Tryd.underlying78 (by kernel_rfl) (by kernel_rfl) h3)
end Go.Proofs.YtlkameeaaplonaaDoor.DRow

/- MeasureMergeMatchesSpec: the row and its tied card. Condition: the row's own list of variables. -/
namespace Go.Proofs.YtlkameeaaplonaaDoor.measureMergeMatchesSpec
open Go.ChangeShapes Go.WideShapes Go.ChangeAt Go.RowKit Go.Deep Go.Proofs.YtlkameeaaplonaaDoor.QMeasureMergeMatchesSpec Go.Proofs.YtlkameeaaplonaaDoor.DRow
open Go.Proofs.YtlkameeaaplonaaDoorW.PrintWords
set_option linter.unusedVariables false
theorem door_met (os : Os) (args : Array Value) : laidMetH Tryd.prog Rows.measureMergeMatchesSpecRow.laid ((World.doorLaid Tryd.prog 400 os).forCall (fun _ _ => 0) ⟨#[], args, []⟩).memory :=
  laidMetH_of_parts3 (fuel := 8) (laidMet_of_run' 8 (by kernel_rfl) (by kernel_rfl)) (by kernel_rfl) (by kernel_rfl)
set_option maxRecDepth 100000 in
theorem lifted (os : Os) (started : os.Started) (H : Type) (enc : TypeId × Value → H) :
    ReturnsInHanded {} Tryd.checked os 7 .any (fun w args => (Rows.measureMergeMatchesSpecSpec.pre enc Tryd.prog Tryd.f7 [] false w args ∧ laidMetH Tryd.prog Rows.measureMergeMatchesSpecRow.laid w) ∧ sizedMet enc Tryd.prog Tryd.f7 (OpenSpec.ofChange Rows.measureMergeMatchesSpecSpec) false w args)
      (Rows.measureMergeMatchesSpecSpec.post enc Tryd.prog Tryd.f7 false true false false) := by
  refine returnsInHanded_of_change_and (C := Tryd.checked) (X := fun w _ => laidMetH Tryd.prog Rows.measureMergeMatchesSpecRow.laid w) (fun _ _ _ hh h => h.of_heap hh) own started (by kernel_rfl) Tryd.func7
    (ChangeSpec.witness_shaped (enc := enc) (C := Tryd.checked) (os := os) (X := fun w _ => laidMetH Tryd.prog Rows.measureMergeMatchesSpecRow.laid w) false (World.doorLaid Tryd.prog 400 os) #[.agg #[.int .i64 0, .slice none 0 0], .agg #[.int .i64 0, .slice none 0 0]] 8 rfl (World.shaped_of_RefB (by kernel_rfl) (by kernel_rfl)) (by kernel_rfl) (by kernel_rfl) (by kernel_rfl) (door_met os _)) ?_
  intro W base args ds gs before hval0 hW _ _ hL _
  have htab := table (show laidMetH Tryd.prog laid W from hL)
  have hval : ∀ (j : Nat) t v, Tryd.f7.params[j]? = some t → args[j]? = some v → Value.okWide Tryd.prog W .any base t v := hval0
  have hW' := hW
  obtain ⟨p, q, hA0, hV, rfl, hfz, hnd⟩ := hW
  have hA : DataW.TrodAll enc Tryd.prog W 0 (fun _ => true) true Tryd.f7.params.toList args.toList ds p := hA0
  rw [Tryd.params7] at hA hval
  obtain ⟨v0, vs0, d0, ds0, p0, q0, hargs, rfl, rfl, h0, r0⟩ := trodAll_cons hA
  obtain ⟨v1, vs1, d1, ds1, p1, q1, rfl, rfl, rfl, h1, r1⟩ := trodAll_cons r0
  obtain ⟨rfl, rfl, rfl⟩ := trodAll_nil r1
  obtain rfl : args = #[v0, v1] := by cases args; simp_all
  obtain ⟨rfl, rfl⟩ := trodVars_none hV
  have k0 := h0
  have lt0 : ∀ x ∈ p0, x.block < W.heap.size := by obtain ⟨m, hm⟩ := k0; exact DataW.trod_lt m _ _ _ hm
  obtain ⟨b0, A0, l0, c0, rfl, hc0, wb0, hr0, hw0⟩ := hist_open (hval 0 25 v0 rfl rfl) h0
  have k1 := h1
  have lt1 : ∀ x ∈ p1, x.block < W.heap.size := by obtain ⟨m, hm⟩ := k1; exact DataW.trod_lt m _ _ _ hm
  obtain ⟨b1, A1, l1, c1, rfl, hc1, wb1, hr1, hw1⟩ := hist_open (hval 1 25 v1 rfl rfl) h1
  clear hA0 hval0
  refine (law7 b0 b1 A0 A1 c0 c1 l0 l1 W hr0 hc0 hr1 hc1 (fun s hs => (bounds_i64 (hw0 s hs).1).2) (fun s hs => (bounds_i64 (hw1 s hs).1).2) htab).mono fun e W' ⟨he, bel⟩ => ?_
  subst he
  exact ⟨_, rfl, _, _, _, [], _, [], hW', trodAll_mk1 (shut_bool Tryd.underlying4 _), (trodAll_cons_mk (Below.trod laidOut (by kernel_rfl) (of_decide_eq_true (by kernel_rfl)) k0 bel lt0) (trodAll_cons_mk (Below.trod laidOut (by kernel_rfl) (of_decide_eq_true (by kernel_rfl)) k1 bel lt1) trodAll_mk0)), rfl, bel.frame _, fun h => by cases h⟩
theorem over : Rows.measureMergeMatchesSpecRow.holds Tryd.pinned (OpenSpec.ofChange Rows.measureMergeMatchesSpecSpec) :=
  OpenClaim.holds_of_wide 7 Tryd.f7 rfl rfl rfl rfl rfl rfl rfl ⟨rfl, rfl, rfl, rfl, rfl⟩ rfl rfl rfl rfl rfl (by kernel_rfl) Tryd.func7 (by kernel_rfl)
    (of_decide_eq_true (by kernel_rfl)) (by unfold Func.isWrapper; first | (rw [if_pos (by decide +kernel)]; kernel_rfl) | (rw [if_neg (by decide +kernel)]; exact ⟨rfl, rfl⟩))
    (fun os started H enc _ => lifted os started H enc)
theorem plain (f : FuncId) (fn : Func) (hf : Tryd.pinned.checked.prog.funcNamed "dynamometer/dynamometerlaw9.MeasureMergeMatchesSpec" = some f) (hfn : Tryd.pinned.checked.prog.funcs[f]? = some fn) :
    false = Tryd.pinned.checked.prog.looks [] ∧ ∀ (j : Nat) t, fn.params[j]? = some t → Tryd.pinned.checked.prog.wantsStandIn t = false := by
  obtain rfl : f = 7 := Option.some.inj ((show Tryd.prog.funcNamed "dynamometer/dynamometerlaw9.MeasureMergeMatchesSpec" = some 7 by kernel_rfl).symm.trans hf) |>.symm
  obtain rfl : fn = Tryd.f7 := (Option.some.inj (Tryd.func7.symm.trans hfn)).symm
  refine ⟨by kernel_rfl, fun j t ht => ?_⟩
  rw [Tryd.params7] at ht
  have hm : t ∈ [25, 25] := by simpa using Array.mem_of_getElem? ht
  have hall : ([25, 25].all fun u => !Tryd.prog.wantsStandIn u) = true := by kernel_rfl
  exact (show Tryd.prog.wantsStandIn t = false by simpa using List.all_eq_true.1 hall t hm)
end Go.Proofs.YtlkameeaaplonaaDoor.measureMergeMatchesSpec
namespace Go.Proofs.YtlkameeaaplonaaDoor
/-- The card. -/
theorem measureMergeMatchesSpec_holds : Rows.MeasureMergeMatchesSpecCardSaid :=
  Claim7.holds_tied_plain_at .later [] _ _ _ _ measureMergeMatchesSpec.over (fun _ h => by cases h) (by kernel_rfl) (fun _ h => by cases h) measureMergeMatchesSpec_row_tie rfl ⟨rfl, rfl⟩ (by kernel_rfl) rfl measureMergeMatchesSpec.plain (by kernel_rfl)
#print axioms measureMergeMatchesSpec_holds
end Go.Proofs.YtlkameeaaplonaaDoor
