/- The texts of the claim, part 5: each says in its own first line what is proved and its conditions. -/
import Derived.Deep.RegionHeld3
import Derived.Test.YtlkameeaaplonaaDoorQMeasureCoarseMatchesSpecx0
import Derived.Test.YtlkameeaaplonaaDoorQMeasureCoarseMatchesSpecx1
import Derived.Test.YtlkameeaaplonaaDoorQMeasureCoarseMatchesSpecx2
import Derived.Test.YtlkameeaaplonaaDoorQMeasureCoarseMatchesSpecx3
import Derived.Test.YtlkameeaaplonaaDoorQMeasureCoarseMatchesSpecx4
import Derived.Test.YtlkameeaaplonaaDoorQMeasureCoarseMatchesSpecx5
import Derived.Test.YtlkameeaaplonaaDoorTie
import Derived.Test.YtlkameeaaplonaaDoorCards
import Derived.Lib.LaidTab
import Derived.Lib.SmallJoins
import Derived.Lib.ItoaNum
import Derived.Lib.AppendIntMem
import Derived.Stop.LaidErr
import Derived.Deep.Slices
import Derived.WalkKit
import Derived.ProofKit
import Derived.OpenShut
import Derived.ShutString
import Derived.ChangeOld
import Derived.Below
import Derived.SizedLaws
import Derived.ChangeSame
import Derived.SevenTiedAt
import Derived.Carry
import Derived.LaidMore
import Derived.LaidLaws
import Derived.LaidHandle
import Derived.Stop.Joined
import Derived.Test.YtlkameeaaplonaaDoorZC1
import Derived.Test.YtlkameeaaplonaaDoorZC2
import Derived.Test.YtlkameeaaplonaaDoorZC3
import Derived.Test.YtlkameeaaplonaaDoorZC4
/- Good values, and how many of them stand in a bucket. Condition: none. -/
namespace Go.Proofs.YtlkameeaaplonaaDoor
open Go.RowKit Go.Proofs.YtlkameeaaplonaaDoor.QMeasureCoarseMatchesSpec Go.Proofs.YtlkameeaaplonaaDoorW.PrintWords Go.Proofs.YtlkameeaaplonaaDoorW.PrintLast Go.Proofs.YtlkameeaaplonaaDoorW.PrintMore
set_option linter.unusedVariables false
set_option linter.unusedSimpArgs false
/-- Good values. -/
def Fine (xs : List Int) : Prop := xs.length ≤ 20000 ∧ ∀ x ∈ xs, okV x
theorem bad_iff (x : Int) : bad x = false ↔ okV x := by
  unfold bad
  simp
  omega
theorem fault_zero {bits : Int} {xs : List Int} (h : fault bits xs = 0) : ∃ b : Nat, bits = (b : Int) ∧ 2 ≤ b ∧ b ≤ 8 ∧ Fine xs := by
  unfold fault at h
  split at h
  · cases h
  · split at h
    · cases h
    · split at h
      · cases h
      · rename_i h1 h2 h3
        refine ⟨bits.toNat, by omega, by omega, by omega, by omega, fun x hx => (bad_iff x).1 ?_⟩
        cases hb : bad x with
        | false => rfl
        | true => exact absurd (List.any_eq_true.2 ⟨x, hx, hb⟩) h3
theorem fault_fine {b : Nat} (h2 : 2 ≤ b) (h8 : b ≤ 8) {xs : List Int} (h : Fine xs) : fault (b : Int) xs = 0 := by
  unfold fault
  rw [if_neg (by omega), if_neg (by have := h.1; omega), if_neg]
  intro h3
  obtain ⟨x, hx, hb⟩ := List.any_eq_true.1 h3
  rw [(bad_iff x).2 (h.2 x hx)] at hb
  cases hb
theorem fault_range (bits : Int) (xs : List Int) : 0 ≤ fault bits xs ∧ fault bits xs ≤ 20 := by
  unfold fault
  split
  · decide
  · split
    · decide
    · split <;> decide
theorem rdI {xs : List Int} {i : Nat} (h : i < xs.length) : rd xs (i : Int) = xs[i] := by simp [rd, List.getD, List.getElem?_eq_getElem h]
/-- How many values stand in a bucket. -/
def cntF (b : Nat) (xs : List Int) (y : Int) : Int := ((xs.map (bkt b)).count y : Int)
theorem cntF_snoc (b : Nat) (xs : List Int) (v y : Int) : cntF b (xs ++ [v]) y = cntF b xs y + if bkt b v = y then 1 else 0 := by
  unfold cntF
  rw [List.map_append, List.count_append, List.map_cons, List.map_nil, List.count_singleton]
  by_cases h : bkt b v = y
  · simp [h]
  · simp [h]
theorem cntF_nonneg (b : Nat) (xs : List Int) (y : Int) : 0 ≤ cntF b xs y := by unfold cntF; omega
theorem cntF_le (b : Nat) (xs : List Int) (y : Int) : cntF b xs y ≤ (xs.length : Int) := by
  unfold cntF
  have := List.count_le_length (a := y) (l := xs.map (bkt b))
  rw [List.length_map] at this
  omega
theorem isH_bound {F : Int → Int} {m : Nat} {l : List S44} (h : IsH F m l) {B : Int} (hB : ∀ y, F y ≤ B) : ∀ s ∈ l, 0 < s.f1 ∧ s.f1 ≤ B := fun s hs' => by
  obtain ⟨h1, h2⟩ := (h.hist.mem s).1 hs'
  have := hB s.f0
  omega
end Go.Proofs.YtlkameeaaplonaaDoor

/- Of by measure. Condition: none. -/
namespace Go.Proofs.YtlkameeaaplonaaDoor
open Go.Shelf Go.RowKit Go.Maps Go.Proofs.YtlkameeaaplonaaDoor.QMeasureCoarseMatchesSpec
open Go.Proofs.YtlkameeaaplonaaDoorW.PrintWords Go.Proofs.YtlkameeaaplonaaDoorW.PrintLast Go.Proofs.YtlkameeaaplonaaDoorW.PrintMore
set_option linter.unusedVariables false
/-- What is known of the histogram of good values. -/
theorem fine_facts {b : Nat} (h2 : 2 ≤ b) (h8 : b ≤ 8) {xs : List Int} (hx : Fine xs) {r : List S44} (hH : IsHist (cntF b xs) r) : ∀ s ∈ r, (0 ≤ s.f0 ∧ s.f0 ≤ 6655) ∧ 1 ≤ s.f1 ∧ s.f1 ≤ 20000 := fun s hs' => by
  obtain ⟨h3, h4⟩ := (hH.mem s).1 hs'
  have h5 := cntF_le b xs s.f0
  have h6 := hx.1
  have h7 : s.f0 ∈ xs.map (bkt b) := by
    refine List.count_pos_iff.1 ?_
    unfold cntF at h3
    omega
  obtain ⟨v, hv, e⟩ := List.mem_map.1 h7
  have h8' := (bkt_ok h2 h8 (hx.2 v hv)).2.2
  rw [e] at h8'
  exact ⟨h8', by omega, by omega⟩
/-- Of, of good values. -/
theorem Of_m {b : Nat} (h2 : 2 ≤ b) (h8 : b ≤ 8) {xs : List Int} (hx : Fine xs) (A : Option Addr) (c : Nat) (w : World) (hC : Kd.C (Kd.int .i64) w A xs.length xs) :
    Calls Tryd.prog 12 #[.int .i64 (b : Int), .slice A xs.length c] w fun e w' => ∃ (P : Option Addr) (d : Nat) (l : List S44), e = .returned (.tuple #[.agg #[.int .i64 (b : Int), .slice P l.length d], .int .i64 0]) ∧ l.length ≤ d ∧ Kd.C k44 w' P l.length l ∧ Below w.heap.size w w' ∧ IsHist (cntF b xs) l ∧ l.length ≤ xs.length := by
  refine (Of11 (b : Int) 1 (bkt b) A xs.length c xs w hC (fault_fine h2 h8 hx) (fun x hx' => (bkt_ok h2 h8 (hx.2 x hx')).1 0) (fun x hx' => ?_)).mono ?_
  · have := (bkt_ok h2 h8 (hx.2 x hx')).2.2
    exact WalkArith.wf_i64 (by omega)
  · rintro e w' ⟨v, r, rfl, hV, hB, hT⟩
    obtain ⟨P, d, rfl, hd, hC'⟩ := ans_of_V hV
    exact ⟨P, d, r, rfl, hd, hC', hB, tally_hist hT, by have := tally_len' hT; rwa [List.length_map] at this⟩
theorem Of_mf (bits : Int) (xs : List Int) (h : fault bits xs ≠ 0) (A : Option Addr) (c : Nat) (w : World) (hC : Kd.C (Kd.int .i64) w A xs.length xs) : Ans 12 #[.int .i64 bits, .slice A xs.length c] w (0, [], fault bits xs) := by
  refine (Of11f bits A xs.length c xs w hC h).mono ?_
  rintro e w' ⟨rfl, hB⟩
  exact ⟨none, 0, rfl, Nat.le_refl _, C_nil _, hB⟩
end Go.Proofs.YtlkameeaaplonaaDoor

/- Coarse, by measure and by its reference: the same answer for all histograms; that of values is the one with fewer bits. -/
namespace Go.Proofs.YtlkameeaaplonaaDoor
open Go.Shelf Go.RowKit Go.Maps Go.Proofs.YtlkameeaaplonaaDoor.QMeasureCoarseMatchesSpec
open Go.Proofs.YtlkameeaaplonaaDoorW.PrintWords Go.Proofs.YtlkameeaaplonaaDoorW.PrintLast Go.Proofs.YtlkameeaaplonaaDoorW.PrintMore
set_option linter.unusedVariables false
abbrev ok64 (l : List S44) : Prop := ∀ s ∈ l, s.f0 ≤ 9223372036854775807
theorem cl_bound {b c : Nat} {l : List S44} (hV : Valid b l) (k : Nat) (y : Int) : 0 ≤ hs (cl b c (l.take k)) y ∧ hs (cl b c (l.take k)) y ≤ 1125899906842624 := by
  have hp : ∀ s ∈ cl b c (l.take k), 0 ≤ s.f1 := fun s hs' => by
    obtain ⟨t, ht, rfl⟩ := List.mem_map.1 hs'
    have := hV.pos t (List.mem_of_mem_take ht)
    show 0 ≤ t.f1
    omega
  have h3 := hs_nonneg y _ hp
  have h4 := hs_le_tot y _ hp
  have h5 : tot (cl b c (l.take k)) = tot (l.take k) := tot_map (cb b c) (l.take k)
  have h6 := tot_take_le l k (fun s hs' => by have := hV.pos s hs'; omega)
  have h7 := hV.total
  omega
theorem coarse_loop {b c : Nat} {l : List S44} (h2 : 2 ≤ c) (hcb : c ≤ b) (hV : Valid b l) : ∀ (d i : Nat) (acc : List S44), i + d = l.length → IsH (hs (cl b c (l.take i))) i acc → (∀ s ∈ acc, 0 ≤ s.f0 ∧ s.f0 ≤ 6655) →
    ∃ r, Ev (fun k => dynamometerref9_Coarse.l0 k (c : Int) (i : Int) (b : Int) l (c : Int) acc) ((c : Int), r, 0) ∧ IsH (hs (cl b c l)) l.length r ∧ ∀ s ∈ r, 0 ≤ s.f0 ∧ s.f0 ≤ 6655 := by
  have hl := valid_len hV
  have h8 := hV.b8
  intro d
  induction d with
  | zero =>
    intro i acc hi hH hp
    have e : i = l.length := by omega
    subst e
    rw [List.take_length] at hH
    refine ⟨acc, Ev.step (f := fun _ => some ((c : Int), acc, 0)) (fun k => ?_) (Ev.now _), hH, hp⟩
    rw [dynamometerref9_Coarse.l0, if_neg (by omega)]
  | succ d ih =>
    intro i acc hi hH hp
    have hil : i < l.length := by omega
    have hin := rd44_mem hil
    have hsb := (valid_bound hV _ hin).2
    obtain ⟨a, ha, hat⟩ := hV.place _ hin
    obtain ⟨lo, hi', _, ⟨K1, e1⟩, _, hhi, _, hcl⟩ := lim_ev h2 hcb h8 a hat
    rw [← ha] at e1 hcl
    obtain ⟨K2, e2⟩ := place_ev h2 (by omega) hhi
    have hbk := (bkt_ok h2 (by omega) hhi).2.2
    rw [hcl] at e2 hbk
    have hbd : ∀ s ∈ acc, 0 < s.f1 ∧ s.f1 ≤ 1125899906842624 := fun s hs' => by
      obtain ⟨h3, h4⟩ := (hH.hist.mem s).1 hs'
      have := (cl_bound (c := c) hV i s.f0).2
      omega
    obtain ⟨K3, e3⟩ := more_ev (cb b c (rd_T44 l (i : Int)).f0) (rd_T44 l (i : Int)).f1 (c : Int) acc (by have := hH.len; omega) (fun s hs' => by have := hbd s hs'; omega)
    have hH' := isH_more hH (fun y => (cl_bound hV i y).1) (cb b c (rd_T44 l (i : Int)).f0) (rd_T44 l (i : Int)).f1 (by omega)
    have hp' : ∀ s ∈ moreF (cb b c (rd_T44 l (i : Int)).f0) (rd_T44 l (i : Int)).f1 acc, 0 ≤ s.f0 ∧ s.f0 ≤ 6655 := fun s hs' => by
      unfold moreF at hs'
      split at hs'
      · exact hp s hs'
      · rcases moreL_mem _ _ s acc hs' with e | ⟨t, ht, e⟩
        · rw [e]
          exact hbk
        · rw [← e]
          exact hp t ht
    obtain ⟨r, ⟨K4, e4⟩, h5, h6⟩ := ih (i + 1) _ (by omega) ⟨hH'.hist.congr (fun y => by rw [hs_cl b c l i hil]), hH'.len⟩ hp'
    refine ⟨r, ⟨K1 + K2 + K3 + K4 + 1, fun k hk => ?_⟩, h5, h6⟩
    obtain ⟨k, rfl⟩ : ∃ n, k = n + 1 := ⟨k - 1, by omega⟩
    have f1 := e1 k (by omega)
    have f2 := e2 k (by omega)
    have f3 := e3 k (by omega)
    have f4 := e4 k (by omega)
    simp only at f1 f2 f3 f4 ⊢
    rw [dynamometerref9_Coarse.l0, if_pos (by omega), if_pos (by omega), f1, Option.bind_some, f2, Option.bind_some, f3, Option.bind_some, add1N i (by omega)]
    exact f4
theorem coarse_good {b c : Nat} {l : List S44} (h2 : 2 ≤ c) (hcb : c ≤ b) (hV : Valid b l) (hck : Ev (fun k => dynamometerref9_Check.f k (b : Int) l) 0) :
    ∃ r, Tell ((c : Int), r, 0) ∧ Ev (fun k => dynamometerref9_Coarse.f k (b : Int) l (c : Int)) ((c : Int), r, 0) ∧ IsHist (hs (cl b c l)) r := by
  have hl := valid_len hV
  have h8 := hV.b8
  obtain ⟨r, ⟨K1, e1⟩, hH, hp⟩ := coarse_loop h2 hcb hV l.length 0 [] (by omega) ⟨(isH_nil 0).hist.congr (fun y => by simp [cl, hs]), by simp⟩ (by simp)
  obtain ⟨K2, e2⟩ := hck
  refine ⟨r, ⟨⟨by show _ ≤ (c : Int); omega, by show (c : Int) ≤ _; omega⟩, ⟨show (-9223372036854775808 : Int) ≤ 0 by decide, show (0 : Int) ≤ 9223372036854775807 by decide⟩, by have := hH.len; show r.length ≤ _; omega, fun s hs' => ?_⟩, ⟨K1 + K2 + 1, fun k hk => ?_⟩, hH.hist⟩
  · have h3 := hp s hs'
    obtain ⟨h4, h5⟩ := (hH.hist.mem s).1 hs'
    have h6 := cl_bound (c := c) hV l.length s.f0
    rw [List.take_length] at h6
    exact ⟨⟨by omega, by omega⟩, by omega, by omega⟩
  · obtain ⟨k, rfl⟩ : ∃ n, k = n + 1 := ⟨k - 1, by omega⟩
    have f1 := e1 k (by omega)
    have f2 := e2 (k + 1) (by omega)
    simp only at f1 f2 ⊢
    unfold dynamometerref9_Coarse.f
    rw [f2, Option.bind_some, if_pos rfl, if_neg (by omega), decide_eq_false (by omega), dynamometerref9_Coarse.j0, if_neg (by decide)]
    exact f1
theorem coarse_both (bits c : Int) (l : List S44) (hwf : ok64 l) : ∃ r : Res, Tell r ∧ Ev (fun k => dynamometerref9_Coarse.f k bits l c) r ∧
    ∀ (A : Option Addr) (q : Nat) (w : World), Kd.C k44 w A l.length l → l.length ≤ q → Ans 19 #[.agg #[.int .i64 bits, .slice A l.length q], .int .i64 c] w r := by
  obtain ⟨e, hm, hr, hg, he⟩ := chk_all bits l hwf
  obtain ⟨k0, hk0⟩ := hm.rounds
  by_cases h0 : e = 0
  · subst h0
    obtain ⟨b, rfl, hV⟩ := he.1 rfl
    by_cases hc : 2 ≤ c ∧ c ≤ (b : Int)
    · obtain ⟨n, rfl⟩ := Int.eq_ofNat_of_zero_le (show 0 ≤ c by omega)
      obtain ⟨r, h1, h2, h3⟩ := coarse_good (b := b) (c := n) (by omega) (by omega) hV hr
      refine ⟨_, h1, h2, fun A q w hC hq => ?_⟩
      refine (coarse19 b n A q l w (by omega) (by omega) hV hC hq).mono ?_
      rintro e w' ⟨P, d, r', rfl, hd, hC', hB, hH⟩
      obtain rfl := hist_unique hH h3
      exact ⟨P, d, rfl, hd, hC', hB⟩
    · obtain ⟨K1, e1⟩ := hr
      refine ⟨(0, [], 9), tell_fault (by decide), ⟨K1 + 1, fun k hk => ?_⟩, fun A q w hC hq => coarse19f (b : Int) c 9 A q k0 l w hC hq (.inr ⟨rfl, hk0, ?_⟩)⟩
      · obtain ⟨k, rfl⟩ : ∃ n, k = n + 1 := ⟨k - 1, by omega⟩
        have f1 := e1 (k + 1) (by omega)
        simp only at f1 ⊢
        unfold dynamometerref9_Coarse.f
        rw [f1, Option.bind_some, if_pos rfl]
        by_cases h1 : c < 2
        · rw [if_pos h1, dynamometerref9_Coarse.j0, if_pos rfl]
        · rw [if_neg h1, decide_eq_true (by omega), dynamometerref9_Coarse.j0, if_pos rfl]
      · by_cases h1 : c < 2
        · exact .inl (decide_eq_true h1)
        · exact .inr ⟨decide_eq_false h1, decide_eq_true (by omega)⟩
  · obtain ⟨K1, e1⟩ := hr
    refine ⟨(0, [], e), tell_fault hg, ⟨K1, fun k hk => ?_⟩, fun A q w hC hq => coarse19f bits c e A q k0 l w hC hq (.inl ⟨hk0, by simpa using h0⟩)⟩
    have f1 := e1 k hk
    simp only at f1 ⊢
    unfold dynamometerref9_Coarse.f
    rw [f1, Option.bind_some, if_neg h0]
/-- The histogram of good values is valid. -/
theorem fine_valid {b : Nat} (h2 : 2 ≤ b) (h8 : b ≤ 8) {xs : List Int} (hx : Fine xs) {r : List S44} (hH : IsHist (cntF b xs) r) : Valid b r := by
  refine ⟨h2, h8, hH.rising, fun s hs' => (fine_facts h2 h8 hx hH s hs').2.1, fun s hs' => ?_, ?_⟩
  · obtain ⟨h3, h4⟩ := (hH.mem s).1 hs'
    have h7 : s.f0 ∈ xs.map (bkt b) := by
      refine List.count_pos_iff.1 ?_
      unfold cntF at h3
      omega
    obtain ⟨v, hv, e⟩ := List.mem_map.1 h7
    rw [← e]
    exact (bkt_ok h2 h8 (hx.2 v hv)).2.1
  · have h3 : tot r = ((xs.map (bkt b)).length : Int) := hist_tot hH
    rw [List.length_map] at h3
    have := hx.1
    omega
/-- Coarse of a histogram of values. -/
theorem coarse_cnt {b c : Nat} (h2 : 2 ≤ c) (hcb : c ≤ b) (h8 : b ≤ 8) {xs : List Int} (hx : Fine xs) {r : List S44} (hH : IsHist (cntF b xs) r) (y : Int) : hs (cl b c r) y = cntF c xs y := by
  have h1 : hs (cl b c r) y = (((xs.map (bkt b)).map (cb b c)).count y : Int) := hist_map_count (cb b c) hH y
  rw [h1, List.map_map]
  unfold cntF
  congr 2
  refine List.map_congr_left fun v hv => ?_
  obtain ⟨m, rfl⟩ := Int.eq_ofNat_of_zero_le (hx.2 v hv).1
  exact cb_bkt h2 hcb h8 m (by have := (hx.2 _ hv).2; omega)
end Go.Proofs.YtlkameeaaplonaaDoor

/- counts answers true. Condition: none. -/
namespace Go.Proofs.YtlkameeaaplonaaDoor
open Go.Shelf Go.RowKit Go.Maps Go.Proofs.YtlkameeaaplonaaDoor.QMeasureCoarseMatchesSpec
open Go.Proofs.YtlkameeaaplonaaDoorW.PrintWords
theorem bucket3 : ∀ x ∈ ([5, 1, 4] : List Int), measure_bucket.f 3 2 x = some (bk3 x) := by
  intro x hx
  simp only [List.mem_cons, List.not_mem_nil, or_false] at hx
  rcases hx with rfl | rfl | rfl <;> kernel_rfl
set_option maxRecDepth 100000 in
set_option maxHeartbeats 4000000 in
theorem counts10 (w : World) : Calls Tryd.prog 16 #[] w fun e w' => e = .returned (.bool true) ∧ Below w.heap.size w w' := by
  have hC0 : Kd.C (Kd.int .i64) (w.alloc (.cells #[.int .i64 5, .int .i64 1, .int .i64 4] 3)) (some ⟨w.heap.size, 0, none⟩) 3 [5, 1, 4] := by
    have h := World.ownsRow_lit (base := 0) (e := 3) (size := 1) w #[.int .i64 5, .int .i64 1, .int .i64 4] 3 (Nat.zero_le _) (by decide) rfl
    exact (C_own (xs := [5, 1, 4]) (B := 0) ⟨h, by decide⟩).2.2
  go_enter Tryd.func16, Tryd.ntmps16
  go_wp2_with (first
    | (go_at_call 12; refine (Of11 2 3 bk3 (some ⟨w.heap.size, 0, none⟩) 3 3 [5, 1, 4] _ hC0 (by decide) bucket3 (by decide)).mono ?_; rintro e w4 ⟨v4, r4, rfl, hV4, hB4, ht4⟩; obtain rfl := tally_unique ht4 tally3; obtain ⟨A4, c4, rfl⟩ := Kd.V_slice hV4; obtain ⟨ad, rfl, q0, q1⟩ := at_T44 (Kd.C_below (Kd.V_reads' hV4).2.2 ((Below.refl _ w4).alloc (Nat.le_refl _) (.cells #[.int .i64 2, .slice A4 2 c4] 25))) 1 (by decide) (by decide); have q0' : (w4.alloc (.cells #[.int .i64 2, .slice (some ad) 2 c4] 25)).cell? ⟨ad.block, ad.off + 2, none⟩ = some (.int .i64 4) := q0; have q1' : (w4.alloc (.cells #[.int .i64 2, .slice (some ad) 2 c4] 25)).cell? ⟨ad.block, ad.off + 2 + 1, none⟩ = some (.int .i64 2) := q1)
    | go_in)
  go_ret
  refine ⟨rfl, ?_⟩
  have hB0 : Below w.heap.size w (w.alloc (.cells #[.int .i64 5, .int .i64 1, .int .i64 4] 3)) := (Below.refl _ _).alloc (Nat.le_refl _) _
  have hB1 := hB0.trans (Below.mono hB4 (by simp))
  exact hB1.alloc hB1.size _
end Go.Proofs.YtlkameeaaplonaaDoor

/- The walk of the law MeasureCoarseMatchesSpec. Conditions: the lists lie in memory as they are read; the table of powers of ten lies below. -/
namespace Go.Proofs.YtlkameeaaplonaaDoor
open Go.Shelf Go.RowKit Go.Maps Go.Proofs.YtlkameeaaplonaaDoor.QMeasureCoarseMatchesSpec
open Go.Proofs.YtlkameeaaplonaaDoorW.PrintWords Go.Proofs.YtlkameeaaplonaaDoorW.PrintLast Go.Proofs.YtlkameeaaplonaaDoorW.PrintMore
set_option linter.unusedVariables false
/-- Of, for all lists. -/
theorem ofAny (bits : Int) (A : Option Addr) (c : Nat) (xs : List Int) (w : World) (hC : Kd.C (Kd.int .i64) w A xs.length xs) :
    Calls Tryd.prog 12 #[.int .i64 bits, .slice A xs.length c] w fun e w' => ∃ (h : Int) (P : Option Addr) (n d : Nat), e = .returned (.tuple #[.agg #[.int .i64 h, .slice P n d], .int .i64 (fault bits xs)]) ∧ Below w.heap.size w w' := by
  by_cases hf : fault bits xs = 0
  · obtain ⟨b, rfl, h2, h8, hx⟩ := fault_zero hf
    refine (Of_m h2 h8 hx A c w hC).mono ?_
    rintro e w' ⟨P, d, l, rfl, _, _, hB, _⟩
    exact ⟨_, _, _, _, by rw [hf], hB⟩
  · refine (Of_mf bits xs hf A c w hC).mono ?_
    rintro e w' ⟨P, d, rfl, _, _, hB⟩
    exact ⟨_, _, _, _, rfl, hB⟩
set_option maxRecDepth 100000 in
set_option maxHeartbeats 8000000 in
theorem law6e (hb bits more F1 F2 : Int) (A1 A2 : Option Addr) (c1 c2 k1 : Nat) (l : List S44) (xs : List Int) (w : World) (r : Res) (hC1 : Kd.C k44 w A1 l.length l) (hc1 : l.length ≤ c1) (hC2 : Kd.C (Kd.int .i64) w A2 xs.length xs) (htab : Pow10 w)
    (hT : Tell r) (hR : dynamometerref9_Coarse.f k1 hb l bits = some (r.1, r.2.1, r.2.2)) (hM : ∀ (A : Option Addr) (q : Nat) (w : World), Kd.C k44 w A l.length l → l.length ≤ q → Ans 19 #[.agg #[.int .i64 hb, .slice A l.length q], .int .i64 bits] w r)
    (hF1 : fault more xs = F1) (hF2 : fault bits xs = F2) (hd : (F1 == 0) = false ∨ (F1 = 0 ∧ (F2 == 0) = false) ∨ (F1 = 0 ∧ F2 = 0 ∧ decide (bits ≤ more) = false)) :
    Calls Tryd.prog 6 #[.agg #[.int .i64 hb, .slice A1 l.length c1], .int .i64 bits, .slice A2 xs.length c2, .int .i64 more] w fun e w' => e = .returned (.bool true) ∧ Below w.heap.size w w' := by
  obtain ⟨W0, hW0⟩ : ∃ W0, w.alloc (.cells #[.int .i64 hb, .slice A1 l.length c1] 25) = W0 := ⟨_, rfl⟩
  have hB0 : Below w.heap.size w W0 := by rw [← hW0]; exact (Below.refl _ w).alloc (Nat.le_refl _) _
  have hs0 : W0.heap.size = w.heap.size + 1 := by rw [← hW0]; simp
  have b0 : W0.heap[w.heap.size]? = some (hbx hb A1 l.length c1) := by rw [← hW0]; exact heap_alloc_new w _
  have hfr : ∀ W : World, Below W0.heap.size W0 W → Cell2 W w.heap.size hb A1 l.length c1 ∧ Below W0.heap.size W0 W := fun W h => ⟨bx_cells ((h.block _ (by omega)).trans b0), h⟩
  have hUp : ∀ W, Below W0.heap.size W0 W → Below w.heap.size w W := fun W h => hB0.trans (Below.mono h (by omega))
  have hCa : ∀ W, Below W0.heap.size W0 W → Kd.C k44 W A1 l.length l := fun W h => Kd.C_below hC1 (hUp W h)
  have hCb : ∀ W, Below W0.heap.size W0 W → Kd.C (Kd.int .i64) W A2 xs.length xs := fun W h => Kd.C_below hC2 (hUp W h)
  have a1 := fun W (h : Below W0.heap.size W0 W) => hM A1 c1 W (hCa W h) hc1
  have a2 := fun W (h : Below W0.heap.size W0 W) => ans_of_R (dynamometerref9_Coarse.calls k1 hb A1 c1 l bits r.1 r.2.1 r.2.2 W (hCa W h) hc1 hR)
  have a3 := fun W (h : Below W0.heap.size W0 W) => ofAny more A2 c2 xs W (hCb W h)
  have a4 := fun W (h : Below W0.heap.size W0 W) => ofAny bits A2 c2 xs W (hCb W h)
  rw [hF1] at a3
  rw [hF2] at a4
  have t1 := fun {W : World} {P : Option Addr} {d : Nat} (hC : Kd.C k44 W P r.2.1.length r.2.1) (h : Below W0.heap.size W0 W) => tellRes r hT (d := d) hC (hUp W h) htab
  have hBd := (Below.refl W0.heap.size W0).drew
  have hS0 := hfr W0.drew hBd
  have up1 : ∀ {W W' : World}, Below W0.heap.size W0 W → Below W.heap.size W W' → Below W0.heap.size W0 W' := fun h h' => h.trans (Below.mono h' h.size)
  clear hT hR hM hF1 hF2 hC1 hC2 hCa hCb b0
  go_enter Tryd.func6, Tryd.ntmps6
  go_wp2
  clear hW0
  go_region_held3 (fun W => Cell2 W w.heap.size hb A1 l.length c1 ∧ Below W0.heap.size W0 W) (first | assumption | exact hS0)
    (first | (go_at_call 11; refine (t1 hC3 hS3.2).mono ?_; rintro e v4 ⟨rfl, hBt⟩; have hS4 := hfr v4 (up1 hS3.2 hBt))
           | (go_at_call 20; refine (a2 v2 hS2.2).mono ?_; rintro e v3 ⟨P3, d3, rfl, hd3, hC3, hBt⟩; have hS3 := hfr v3 (up1 hS2.2 hBt))
           | (go_at_call 11; refine (t1 hC1 hS1.2).mono ?_; rintro e v2 ⟨rfl, hBt⟩; have hS2 := hfr v2 (up1 hS1.2 hBt))
           | (go_at_call 19; refine (a1 _ hBd).mono ?_; rintro e v1 ⟨P1, d1, rfl, hd1, hC1, hBt⟩; have hS1 := hfr v1 (up1 hBd hBt)))
  have hB4 := hS4.2
  clear hS0 hS1 hS2 hS3 hS4 t1 a1 a2
  rcases hd with d1 | ⟨rfl, d1⟩ | ⟨rfl, rfl, d1⟩
  all_goals
    go_wp2_with (first
      | (go_at_call 16; refine (counts10 _).mono ?_; rintro e v7 ⟨rfl, hB7⟩)
      | (go_at_call 12; refine (a4 _ hB5').mono ?_; rintro e v6 ⟨h6, P6, n6, d6, rfl, hB6⟩; have hB6' := (up1 hB5' hB6).alloc (up1 hB5' hB6).size (.cells #[.int .i64 h6, .slice P6 n6 d6] 25))
      | (go_at_call 12; refine (a3 _ hB4).mono ?_; rintro e v5 ⟨h5, P5, n5, d5, rfl, hB5⟩; have hB5' := (up1 hB4 hB5).alloc (up1 hB4 hB5).size (.cells #[.int .i64 h5, .slice P5 n5 d5] 25))
      | go_in)
    go_ret
    exact ⟨rfl, hUp _ (up1 hB6' hB7)⟩
set_option maxRecDepth 100000 in
set_option maxHeartbeats 8000000 in
theorem law6g (hb : Int) (b c : Nat) (A1 A2 : Option Addr) (c1 c2 k1 : Nat) (l : List S44) (xs : List Int) (w : World) (r : Res) (hC1 : Kd.C k44 w A1 l.length l) (hc1 : l.length ≤ c1) (hC2 : Kd.C (Kd.int .i64) w A2 xs.length xs) (htab : Pow10 w)
    (hT : Tell r) (hR : dynamometerref9_Coarse.f k1 hb l (c : Int) = some (r.1, r.2.1, r.2.2)) (hM : ∀ (A : Option Addr) (q : Nat) (w : World), Kd.C k44 w A l.length l → l.length ≤ q → Ans 19 #[.agg #[.int .i64 hb, .slice A l.length q], .int .i64 (c : Int)] w r)
    (h2 : 2 ≤ c) (hcb : c ≤ b) (h8 : b ≤ 8) (hx : Fine xs) :
    Calls Tryd.prog 6 #[.agg #[.int .i64 hb, .slice A1 l.length c1], .int .i64 (c : Int), .slice A2 xs.length c2, .int .i64 (b : Int)] w fun e w' => e = .returned (.bool true) ∧ Below w.heap.size w w' := by
  obtain ⟨W0, hW0⟩ : ∃ W0, w.alloc (.cells #[.int .i64 hb, .slice A1 l.length c1] 25) = W0 := ⟨_, rfl⟩
  have hB0 : Below w.heap.size w W0 := by rw [← hW0]; exact (Below.refl _ w).alloc (Nat.le_refl _) _
  have hs0 : W0.heap.size = w.heap.size + 1 := by rw [← hW0]; simp
  have b0 : W0.heap[w.heap.size]? = some (hbx hb A1 l.length c1) := by rw [← hW0]; exact heap_alloc_new w _
  have hfr : ∀ W : World, Below W0.heap.size W0 W → Cell2 W w.heap.size hb A1 l.length c1 ∧ Below W0.heap.size W0 W := fun W h => ⟨bx_cells ((h.block _ (by omega)).trans b0), h⟩
  have hUp : ∀ W, Below W0.heap.size W0 W → Below w.heap.size w W := fun W h => hB0.trans (Below.mono h (by omega))
  have hCa : ∀ W, Below W0.heap.size W0 W → Kd.C k44 W A1 l.length l := fun W h => Kd.C_below hC1 (hUp W h)
  have hCb : ∀ W, Below W0.heap.size W0 W → Kd.C (Kd.int .i64) W A2 xs.length xs := fun W h => Kd.C_below hC2 (hUp W h)
  have a1 := fun W (h : Below W0.heap.size W0 W) => hM A1 c1 W (hCa W h) hc1
  have a2 := fun W (h : Below W0.heap.size W0 W) => ans_of_R (dynamometerref9_Coarse.calls k1 hb A1 c1 l (c : Int) r.1 r.2.1 r.2.2 W (hCa W h) hc1 hR)
  have a3 := fun W (h : Below W0.heap.size W0 W) => Of_m (b := b) (by omega) h8 hx A2 c2 W (hCb W h)
  have a4 := fun W (h : Below W0.heap.size W0 W) => Of_m (b := c) h2 (by omega) hx A2 c2 W (hCb W h)
  have t1 := fun {W : World} {P : Option Addr} {d : Nat} (hC : Kd.C k44 W P r.2.1.length r.2.1) (h : Below W0.heap.size W0 W) => tellRes r hT (d := d) hC (hUp W h) htab
  have hBd := (Below.refl W0.heap.size W0).drew
  have hS0 := hfr W0.drew hBd
  have up1 : ∀ {W W' : World}, Below W0.heap.size W0 W → Below W.heap.size W W' → Below W0.heap.size W0 W' := fun h h' => h.trans (Below.mono h' h.size)
  clear hT hR hM hC1 hC2 hCa hCb b0
  go_enter Tryd.func6, Tryd.ntmps6
  go_wp2
  clear hW0
  go_region_held3 (fun W => Cell2 W w.heap.size hb A1 l.length c1 ∧ Below W0.heap.size W0 W) (first | assumption | exact hS0)
    (first | (go_at_call 11; refine (t1 hC3 hS3.2).mono ?_; rintro e v4 ⟨rfl, hBt⟩; have hS4 := hfr v4 (up1 hS3.2 hBt))
           | (go_at_call 20; refine (a2 v2 hS2.2).mono ?_; rintro e v3 ⟨P3, d3, rfl, hd3, hC3, hBt⟩; have hS3 := hfr v3 (up1 hS2.2 hBt))
           | (go_at_call 11; refine (t1 hC1 hS1.2).mono ?_; rintro e v2 ⟨rfl, hBt⟩; have hS2 := hfr v2 (up1 hS1.2 hBt))
           | (go_at_call 19; refine (a1 _ hBd).mono ?_; rintro e v1 ⟨P1, d1, rfl, hd1, hC1, hBt⟩; have hS1 := hfr v1 (up1 hBd hBt)))
  have hB4 := hS4.2
  clear hS0 hS1 hS2 hS3 hS4 t1 a1 a2
  have d1 : decide ((c : Int) ≤ (b : Int)) = true := decide_eq_true (by omega)
  have d2 : decide (c ≤ b) = true := decide_eq_true (by omega)
  go_wp2_with (first
    | (go_at_call 19; refine (coarse19 b c P5 d5 X5 _ h2 hcb (fine_valid (by omega) h8 hx hH5) (Kd.C_below hC5' hB56) hd5).mono ?_; rintro e v7 ⟨P7, d7, X7, rfl, hd7, hC7, hB7, hH7⟩)
    | (go_at_call 12; refine (a4 _ hB5').mono ?_; rintro e v6 ⟨P6, d6, X6, rfl, hd6, hC6, hB6, hH6, hl6⟩; have hB6' := (up1 hB5' hB6).alloc (up1 hB5' hB6).size (.cells #[.int .i64 (c : Int), .slice P6 X6.length d6] 25); have hB56 := hB6.alloc hB6.size (.cells #[.int .i64 (c : Int), .slice P6 X6.length d6] 25); have g5 := (hB56.block _ g5l).trans (bx_alloc v5 (b : Int) P5 X5.length d5); obtain ⟨x0, x1⟩ := bx_cells g5)
    | (go_at_call 12; refine (a3 _ hB4).mono ?_; rintro e v5 ⟨P5, d5, X5, rfl, hd5, hC5, hB5, hH5, hl5⟩; have hB5' := (up1 hB4 hB5).alloc (up1 hB4 hB5).size (.cells #[.int .i64 (b : Int), .slice P5 X5.length d5] 25); have hC5' := Kd.C_below hC5 ((Below.refl _ v5).alloc (Nat.le_refl _) (.cells #[.int .i64 (b : Int), .slice P5 X5.length d5] 25)); have g5l : v5.heap.size < (v5.alloc (.cells #[.int .i64 (b : Int), .slice P5 X5.length d5] 25)).heap.size := (by simp))
    | go_in)
  obtain rfl := hist_unique (hH7.congr (fun y => coarse_cnt h2 hcb h8 hx hH5 y)) hH6
  have hU6 := up1 hB6' hB7
  have hTl : Tell ((c : Int), X7, 0) := by
    have hff := fine_facts h2 (by omega) hx hH6
    have hxl := hx.1
    refine ⟨⟨by show _ ≤ (c : Int); omega, by show (c : Int) ≤ _; omega⟩, ⟨show (-9223372036854775808 : Int) ≤ 0 by decide, show (0 : Int) ≤ 9223372036854775807 by decide⟩, by show X7.length ≤ _; omega, fun s hs' => ?_⟩
    have := hff s hs'
    exact ⟨⟨by omega, by omega⟩, by omega, by omega⟩
  obtain ⟨U, hE⟩ : ∃ U, v7.alloc (.cells #[.int .i64 (c : Int), .slice P7 X7.length d7] 25) = U := ⟨_, rfl⟩
  rw [hE]
  have hBU : Below W0.heap.size W0 U := by rw [← hE]; exact hU6.alloc hU6.size _
  have z6l : v6.heap.size < (v6.alloc (.cells #[.int .i64 (c : Int), .slice P6 X7.length d6] 25)).heap.size := by simp
  have z6 : U.heap[v6.heap.size]? = some (hbx (c : Int) P6 X7.length d6) := by rw [← hE]; exact (Below.heap_alloc _ _ _ (by have := hB7.size; omega)).trans ((hB7.block _ z6l).trans (bx_alloc v6 _ _ _ _))
  have z7 : U.heap[v7.heap.size]? = some (hbx (c : Int) P7 X7.length d7) := by rw [← hE]; exact bx_alloc v7 _ _ _ _
  have z6u : v6.heap.size < U.heap.size := by rw [← hE]; have := hB7.size; simp; omega
  have z7u : v7.heap.size < U.heap.size := by rw [← hE]; simp
  have c6 : Kd.C k44 U P6 X7.length X7 := by rw [← hE]; exact Kd.C_below (Kd.C_below (Kd.C_below hC6 ((Below.refl _ _).alloc (Nat.le_refl _) _)) hB7) ((Below.refl _ _).alloc (Nat.le_refl _) _)
  have c7 : Kd.C k44 U P7 X7.length X7 := by rw [← hE]; exact Kd.C_below hC7 ((Below.refl _ _).alloc (Nat.le_refl _) _)
  have up3 : ∀ {W : World}, Below U.heap.size U W → Below W0.heap.size W0 W := fun h => hBU.trans (Below.mono h hBU.size)
  have hfr3 : ∀ W : World, Below U.heap.size U W → Cell2 W v6.heap.size (c : Int) P6 X7.length d6 ∧ Cell2 W v7.heap.size (c : Int) P7 X7.length d7 ∧ Below U.heap.size U W := fun W h =>
    ⟨bx_cells ((h.block _ z6u).trans z6), bx_cells ((h.block _ z7u).trans z7), h⟩
  have tZ := fun W (h : Below U.heap.size U W) => tellRes ((c : Int), X7, 0) hTl (d := d7) (Kd.C_below c7 h : Kd.C k44 W P7 X7.length X7) (hUp W (up3 h)) htab
  have tY := fun W (h : Below U.heap.size U W) => tellRes ((c : Int), X7, 0) hTl (d := d6) (Kd.C_below c6 h : Kd.C k44 W P6 X7.length X7) (hUp W (up3 h)) htab
  have hBd3 := (Below.refl U.heap.size U).drew
  have hS0 := hfr3 U.drew hBd3
  have up4 : ∀ {W W' : World}, Below U.heap.size U W → Below W.heap.size W W' → Below U.heap.size U W' := fun h h' => h.trans (Below.mono h' h.size)
  clear hE hB5 hB5' hC5 hC5' hB6 hB6' hB56 g5 x0 x1 hB7 hC6 hC7 z6l z6 z7 z6u z7u c6 c7 hfr hU6 a3 a4 hH5 hH6 hH7 hC1 hC3
  go_region_held3 (fun W => Cell2 W v6.heap.size (c : Int) P6 X7.length d6 ∧ Cell2 W v7.heap.size (c : Int) P7 X7.length d7 ∧ Below U.heap.size U W) (first | assumption | exact hS0)
    (first | (go_at_call 11; refine (tY u1 hS1.2.2).mono ?_; rintro e u2 ⟨rfl, hBt⟩; have hS2 := hfr3 u2 (up4 hS1.2.2 hBt))
           | (go_at_call 11; refine (tZ _ hBd3).mono ?_; rintro e u1 ⟨rfl, hBt⟩; have hS1 := hfr3 u1 (up4 hBd3 hBt)))
  go_wp2_with (first
    | (go_at_call 16; refine (counts10 _).mono ?_; rintro e u5 ⟨rfl, hB8⟩)
    | go_in)
  go_ret
  exact ⟨rfl, hUp _ (up3 (up4 hS2.2.2 hB8))⟩
/-- The law. -/
theorem law6 (hb bits more : Int) (A1 A2 : Option Addr) (c1 c2 : Nat) (l : List S44) (xs : List Int) (w : World) (hC1 : Kd.C k44 w A1 l.length l) (hc1 : l.length ≤ c1) (hC2 : Kd.C (Kd.int .i64) w A2 xs.length xs) (hwf : ok64 l) (htab : Pow10 w) :
    Calls Tryd.prog 6 #[.agg #[.int .i64 hb, .slice A1 l.length c1], .int .i64 bits, .slice A2 xs.length c2, .int .i64 more] w fun e w' => e = .returned (.bool true) ∧ Below w.heap.size w w' := by
  obtain ⟨r, hT, hR, hM⟩ := coarse_both hb bits l hwf
  obtain ⟨k1, hk1⟩ := hR.rounds
  by_cases h1 : fault more xs = 0
  · by_cases h2 : fault bits xs = 0
    · obtain ⟨b, rfl, hb2, hb8, hx⟩ := fault_zero h1
      obtain ⟨c, rfl, hc2, hc8, _⟩ := fault_zero h2
      by_cases h3 : (c : Int) ≤ (b : Int)
      · exact law6g hb b c A1 A2 c1 c2 k1 l xs w r hC1 hc1 hC2 htab hT hk1 hM hc2 (by omega) hb8 hx
      · exact law6e hb c b 0 0 A1 A2 c1 c2 k1 l xs w r hC1 hc1 hC2 htab hT hk1 hM h1 h2 (.inr (.inr ⟨rfl, rfl, decide_eq_false h3⟩))
    · exact law6e hb bits more 0 _ A1 A2 c1 c2 k1 l xs w r hC1 hc1 hC2 htab hT hk1 hM h1 rfl (.inr (.inl ⟨rfl, by simpa using h2⟩))
  · exact law6e hb bits more _ _ A1 A2 c1 c2 k1 l xs w r hC1 hc1 hC2 htab hT hk1 hM rfl rfl (.inl (by simpa using h1))
end Go.Proofs.YtlkameeaaplonaaDoor

/- What a row opens: ints, lists of ints, histograms; the table of powers of ten out of the row's list. Condition: none. -/
namespace Go.Proofs.YtlkameeaaplonaaDoor.DRow
open Go.ChangeShapes Go.WideShapes Go.ChangeAt Go.RowKit Go.Deep Go.Proofs.YtlkameeaaplonaaDoor.QMeasureCoarseMatchesSpec
open Go.Proofs.YtlkameeaaplonaaDoorW.PrintWords
set_option linter.unusedVariables false
section
variable {H : Type} {enc : TypeId × Value → H} {w : World} {base : Nat} {spare : Nat → Bool} {held : Bool}
/-- A slice, from its cells; its elements by their own law. -/
theorem slice_open {α : Type} (d : Kd α) (Q : α → Prop) {t e : TypeId} (ht : Tryd.prog.underlying t = some (.slice e)) (hc : Tryd.prog.cellsOf e = d.sz)
    (elem : ∀ {fuel : Nat} {cs : List Value} {x : DataW H × List MemPlace}, DataW.trod enc Tryd.prog w base spare held fuel e cs = some x → ∃ s : α, d.K w s cs ∧ Q s)
    {fuel : Nat} {cs : List Value} {x : DataW H × List MemPlace} (hf : DataW.trod enc Tryd.prog w base spare held fuel t cs = some x) :
    ∃ (a : Option Addr) (len cap : Nat) (l : List α), cs = [.slice a len cap] ∧ l.length = len ∧ len ≤ cap ∧ Kd.C d w a len l ∧ ∀ s ∈ l, Q s := by
  rcases open_slice ht hf with ⟨hcs, _⟩ | ⟨x, ln, c, m, n, D, Pl, hcs, _, hl, hm, hmm, _, hx⟩
  · exact ⟨none, 0, 0, [], hcs, rfl, Nat.le_refl _, ⟨rfl, by omega, fun h => absurd h (by omega)⟩, by simp⟩
  · have hlm : ln ≤ m := by rw [hmm]; split <;> omega
    have each : ∀ i, i < ln → ∃ (s : α) (cs' : List Value), w.cells? base (x.add (i * d.sz)) d.sz = some cs' ∧ d.K w s cs' ∧ Q s := by
      intro i hi
      obtain ⟨cs', h1, h2⟩ := hx i (by omega)
      obtain ⟨s, hs⟩ := elem h2
      rw [hc] at h1
      exact ⟨s, cs', h1, hs⟩
    have hsome : ∀ n : Nat, n ≤ ln → ∃ l : List α, l.length = n ∧ (∀ i s, l[i]? = some s → ∃ cs', w.cells? base (x.add (i * d.sz)) d.sz = some cs' ∧ d.K w s cs') ∧ ∀ s ∈ l, Q s := by
      intro n
      induction n with
      | zero => intro _; exact ⟨[], rfl, by simp, by simp⟩
      | succ n ih =>
        intro hn
        obtain ⟨l, h1, h2, h3⟩ := ih (by omega)
        obtain ⟨s, cs', hs, hk, hq⟩ := each n (by omega)
        refine ⟨l ++ [s], by simp [h1], fun i t ht => ?_, fun t ht => ?_⟩
        · by_cases hi : i < l.length
          · rw [List.getElem?_append_left hi] at ht
            exact h2 i t ht
          · rw [List.getElem?_append_right (by omega)] at ht
            have hi' : i = n := by
              have := (List.getElem?_eq_some_iff.1 ht).1
              simp at this
              omega
            subst hi'
            rw [h1, Nat.sub_self] at ht
            simp at ht
            subst ht
            exact ⟨cs', hs, hk⟩
        · rcases List.mem_append.1 ht with h | h
          · exact h3 t h
          · obtain rfl := List.mem_singleton.1 h
            exact hq
    obtain ⟨l, h1, h2, h3⟩ := hsome ln (Nat.le_refl _)
    refine ⟨some x, ln, c, l, hcs, h1, hl, ⟨h1, by unfold maxLen at hm; omega, fun _ => ⟨x, rfl, fun j s hj => ?_⟩⟩, h3⟩
    obtain ⟨cs', h3, h4⟩ := h2 j s hj
    obtain ⟨_, hlen, hcell⟩ := World.cells?_some h3
    refine ⟨cs', d.K_len h4, h4, fun i u hu => ?_⟩
    have hi : i < d.sz := by have := (List.getElem?_eq_some_iff.1 hu).1; rw [d.K_len h4] at this; exact this
    have := hcell i hi
    rw [hu, Go.Deep.add_add] at this
    exact this
abbrev wf64 (s : Int) : Prop := (Lit.int .i64 s).wf = true
theorem int_open {fuel : Nat} {cs : List Value} {x : DataW H × List MemPlace} (h : DataW.trod enc Tryd.prog w base spare held fuel 3 cs = some x) : ∃ s : Int, (Kd.int .i64).K w s cs ∧ wf64 s := by
  obtain ⟨n0, e0, _, hw⟩ := DataW.trod_int Tryd.underlying3 h
  exact ⟨n0, e0, hw⟩
/-- A list of ints, from what is read. -/
theorem ints_open {a : Option Addr} {len cap : Nat} {d : DataW H} {ps : List MemPlace} (h : DataW.Trod enc Tryd.prog w base spare held 22 (.slice a len cap) d ps) :
    ∃ l : List Int, l.length = len ∧ len ≤ cap ∧ Kd.C (Kd.int .i64) w a len l ∧ ∀ s ∈ l, wf64 s := by
  obtain ⟨fuel, hf⟩ := h
  obtain ⟨a', len', cap', l, e, h1, h2, h3, h4⟩ := slice_open (Kd.int .i64) wf64 Tryd.underlying22 (by kernel_rfl) (fun h => int_open h) hf
  simp [Value.cells] at e
  obtain ⟨rfl, rfl, rfl⟩ := e
  exact ⟨l, h1, h2, h3, h4⟩
theorem count_open {fuel : Nat} {cs : List Value} {x : DataW H × List MemPlace} (h : DataW.trod enc Tryd.prog w base spare held fuel 44 cs = some x) : ∃ s : S44, k44.K w s cs ∧ (wf64 s.f0 ∧ wf64 s.f1) := by
  obtain ⟨xs, k, _, _, hlen, hxl, hf⟩ := DataW.trod_struct Tryd.underlying44 h
  have hc : Tryd.prog.cellsOf 44 = 2 := by kernel_rfl
  have hc3 : Tryd.prog.cellsOf 3 = 1 := by kernel_rfl
  rw [hc] at hlen
  have hxl' : xs.length = 2 := hxl
  clear hxl
  have e2 : ∀ {α : Type} (l : List α), l.length = 2 → ∃ a b, l = [a, b] := by
    intro α l hl
    rcases l with _ | ⟨a, _ | ⟨b, _ | ⟨c, l⟩⟩⟩ <;> simp at hl
    exact ⟨a, b, rfl⟩
  obtain ⟨v0, v1, rfl⟩ := e2 cs hlen
  obtain ⟨y0, y1, rfl⟩ := e2 xs hxl'
  have g0 := hf 0 _ rfl
  have g1 := hf 1 _ rfl
  simp [hc3] at g0 g1
  obtain ⟨s0, e0, _, q0⟩ := DataW.trod_int Tryd.underlying3 g0
  obtain ⟨s1, e1, _, q1⟩ := DataW.trod_int Tryd.underlying3 g1
  simp at e0 e1
  exact ⟨⟨s0, s1⟩, by rw [e0, e1]; exact k44_mk w ⟨s0, s1⟩, q0, q1⟩
/-- A histogram, from what is read. -/
theorem hist_open {r : Reach} {b0 : Nat} {v : Value} {d : DataW H} {p : List MemPlace} (hv : Value.okWide Tryd.prog w r b0 25 v) (h : DataW.Trod enc Tryd.prog w base spare held 25 v d p) :
    ∃ (bits : Int) (a : Option Addr) (l : List S44) (cap : Nat), v = .agg #[.int .i64 bits, .slice a l.length cap] ∧ l.length ≤ cap ∧ wf64 bits ∧ Kd.C k44 w a l.length l ∧ ∀ s ∈ l, wf64 s.f0 ∧ wf64 s.f1 := by
  obtain ⟨v0, v1, y0, y1, n, rfl, _, _, h0, h1⟩ := Joins.open_agg2 Tryd.underlying25 (by kernel_rfl) (by kernel_rfl) hv h
  obtain ⟨bits, e0, _, hw⟩ := DataW.trod_int Tryd.underlying3 h0
  obtain ⟨a, len, cap, l, e1, rfl, h2, h3, h4⟩ := slice_open k44 (fun s => wf64 s.f0 ∧ wf64 s.f1) Tryd.underlying23 (by kernel_rfl) (fun h => count_open h) h1
  simp at e0 e1
  subst e0 e1
  exact ⟨bits, a, l, cap, rfl, h2, hw, h3, h4⟩
end
theorem own : ownKnob Tryd.prog.godebug = none := by kernel_rfl
theorem laidOut : laidOutB Tryd.prog = true := by kernel_rfl
/-- The list of each row of this seat. -/
def laid : List (String × DataW Unit) := [("math/bits.deBruijn32tab", Rows.laid_math_bits_deBruijn32tab), ("math/bits.deBruijn64tab", Rows.laid_math_bits_deBruijn64tab), ("internal/strconv.uint64pow10", Rows.laid_internal_strconv_uint64pow10)]
theorem pow10_eq : (Rows.laid_internal_strconv_uint64pow10 : DataW Unit) = Lib.tabData .u64 Lib.pow10Tab := by kernel_rfl
theorem table {W : World} (h : laidMetH Tryd.prog laid W) : Lib.TabBelow Tryd.prog W.heap.size W "internal/strconv.uint64pow10" .u64 Lib.pow10Tab := by
  rw [MakeChecks.laidMetH_plain _ _ _ (by kernel_rfl)] at h
  have h3 := h.tail.tail
  rw [pow10_eq] at h3
  exact Lib.tabBelow_of_tabIs (Lib.tabIs_of_head (rest := []) (g := 0) (t := 94) (e := 78) (n := 20) (by kernel_rfl) (by kernel_rfl) Tryd.underlying94 Tryd.underlying78 (by kernel_rfl) (by kernel_rfl) h3)
end Go.Proofs.YtlkameeaaplonaaDoor.DRow

/- MeasureCoarseMatchesSpec: the row and its tied card. Condition: the row's own list of variables. -/
namespace Go.Proofs.YtlkameeaaplonaaDoor.measureCoarseMatchesSpec
open Go.ChangeShapes Go.WideShapes Go.ChangeAt Go.RowKit Go.Deep Go.Proofs.YtlkameeaaplonaaDoor.QMeasureCoarseMatchesSpec Go.Proofs.YtlkameeaaplonaaDoor.DRow
open Go.Proofs.YtlkameeaaplonaaDoorW.PrintWords
set_option linter.unusedVariables false
theorem door_met (os : Os) (args : Array Value) : laidMetH Tryd.prog Rows.measureCoarseMatchesSpecRow.laid ((World.doorLaid Tryd.prog 400 os).forCall (fun _ _ => 0) ⟨#[], args, []⟩).memory :=
  laidMetH_of_parts3 (fuel := 8) (laidMet_of_run' 8 (by kernel_rfl) (by kernel_rfl)) (by kernel_rfl) (by kernel_rfl)
set_option maxRecDepth 100000 in
theorem lifted (os : Os) (started : os.Started) (H : Type) (enc : TypeId × Value → H) :
    ReturnsInHanded {} Tryd.checked os 6 .any (fun w args => (Rows.measureCoarseMatchesSpecSpec.pre enc Tryd.prog Tryd.f6 [] false w args ∧ laidMetH Tryd.prog Rows.measureCoarseMatchesSpecRow.laid w) ∧ sizedMet enc Tryd.prog Tryd.f6 (OpenSpec.ofChange Rows.measureCoarseMatchesSpecSpec) false w args)
      (Rows.measureCoarseMatchesSpecSpec.post enc Tryd.prog Tryd.f6 false true false false) := by
  refine returnsInHanded_of_change_and (C := Tryd.checked) (X := fun w _ => laidMetH Tryd.prog Rows.measureCoarseMatchesSpecRow.laid w) (fun _ _ _ hh h => h.of_heap hh) own started (by kernel_rfl) Tryd.func6
    (ChangeSpec.witness_shaped (enc := enc) (C := Tryd.checked) (os := os) (X := fun w _ => laidMetH Tryd.prog Rows.measureCoarseMatchesSpecRow.laid w) false (World.doorLaid Tryd.prog 400 os) #[.agg #[.int .i64 0, .slice none 0 0], .int .i64 0, .slice none 0 0, .int .i64 0] 8 rfl (World.shaped_of_RefB (by kernel_rfl) (by kernel_rfl)) (by kernel_rfl) (by kernel_rfl) (by kernel_rfl) (door_met os _)) ?_
  intro W base args ds gs before hval0 hW _ _ hL _
  have htab := table (show laidMetH Tryd.prog laid W from hL)
  have hval : ∀ (j : Nat) t v, Tryd.f6.params[j]? = some t → args[j]? = some v → Value.okWide Tryd.prog W .any base t v := hval0
  have hW' := hW
  obtain ⟨p, q, hA0, hV, rfl, hfz, hnd⟩ := hW
  have hA : DataW.TrodAll enc Tryd.prog W 0 (fun _ => true) true Tryd.f6.params.toList args.toList ds p := hA0
  rw [Tryd.params6] at hA hval
  obtain ⟨v0, vs0, d0, ds0, p0, q0, hargs, rfl, rfl, h0, r0⟩ := trodAll_cons hA
  obtain ⟨v1, vs1, d1, ds1, p1, q1, rfl, rfl, rfl, h1, r1⟩ := trodAll_cons r0
  obtain ⟨v2, vs2, d2, ds2, p2, q2, rfl, rfl, rfl, h2, r2⟩ := trodAll_cons r1
  obtain ⟨v3, vs3, d3, ds3, p3, q3, rfl, rfl, rfl, h3, r3⟩ := trodAll_cons r2
  obtain ⟨rfl, rfl, rfl⟩ := trodAll_nil r3
  obtain rfl : args = #[v0, v1, v2, v3] := by cases args; simp_all
  obtain ⟨rfl, rfl⟩ := trodVars_none hV
  obtain ⟨a1, rfl, rfl, rfl, w1⟩ := open_int Tryd.underlying3 (hval 1 3 v1 rfl rfl) h1
  obtain ⟨A2, len2, c2, rfl⟩ := okWide_slice Tryd.underlying22 (hval 2 22 v2 rfl rfl)
  obtain ⟨a3, rfl, rfl, rfl, w3⟩ := open_int Tryd.underlying3 (hval 3 3 v3 rfl rfl) h3
  have k0 := h0
  have lt0 : ∀ x ∈ p0, x.block < W.heap.size := by obtain ⟨m, hm⟩ := k0; exact DataW.trod_lt m _ _ _ hm
  obtain ⟨b0, A0, l0, c0, rfl, hc0, wb0, hr0, hw0⟩ := hist_open (hval 0 25 v0 rfl rfl) h0
  have k2 := h2
  have lt2 : ∀ x ∈ p2, x.block < W.heap.size := by obtain ⟨m, hm⟩ := k2; exact DataW.trod_lt m _ _ _ hm
  obtain ⟨l2, rfl, hc2, hr2, hw2⟩ := ints_open h2
  clear hA0 hval0
  refine (law6 b0 a1 a3 A0 A2 c0 c2 l0 l2 W hr0 hc0 hr2 (fun s hs => (bounds_i64 (hw0 s hs).1).2) htab).mono fun e W' ⟨he, bel⟩ => ?_
  subst he
  exact ⟨_, rfl, _, _, _, [], _, [], hW', trodAll_mk1 (shut_bool Tryd.underlying4 _), (trodAll_cons_mk (Below.trod laidOut (by kernel_rfl) (of_decide_eq_true (by kernel_rfl)) k0 bel lt0) (trodAll_cons_mk (shut_int Tryd.underlying3 w1) (trodAll_cons_mk (Below.trod laidOut (by kernel_rfl) (of_decide_eq_true (by kernel_rfl)) k2 bel lt2) (trodAll_cons_mk (shut_int Tryd.underlying3 w3) trodAll_mk0)))), rfl, bel.frame _, fun h => by cases h⟩
theorem over : Rows.measureCoarseMatchesSpecRow.holds Tryd.pinned (OpenSpec.ofChange Rows.measureCoarseMatchesSpecSpec) :=
  OpenClaim.holds_of_wide 6 Tryd.f6 rfl rfl rfl rfl rfl rfl rfl ⟨rfl, rfl, rfl, rfl, rfl⟩ rfl rfl rfl rfl rfl (by kernel_rfl) Tryd.func6 (by kernel_rfl)
    (of_decide_eq_true (by kernel_rfl)) (by unfold Func.isWrapper; first | (rw [if_pos (by decide +kernel)]; kernel_rfl) | (rw [if_neg (by decide +kernel)]; exact ⟨rfl, rfl⟩))
    (fun os started H enc _ => lifted os started H enc)
theorem plain (f : FuncId) (fn : Func) (hf : Tryd.pinned.checked.prog.funcNamed "dynamometer/dynamometerlaw9.MeasureCoarseMatchesSpec" = some f) (hfn : Tryd.pinned.checked.prog.funcs[f]? = some fn) :
    false = Tryd.pinned.checked.prog.looks [] ∧ ∀ (j : Nat) t, fn.params[j]? = some t → Tryd.pinned.checked.prog.wantsStandIn t = false := by
  obtain rfl : f = 6 := Option.some.inj ((show Tryd.prog.funcNamed "dynamometer/dynamometerlaw9.MeasureCoarseMatchesSpec" = some 6 by kernel_rfl).symm.trans hf) |>.symm
  obtain rfl : fn = Tryd.f6 := (Option.some.inj (Tryd.func6.symm.trans hfn)).symm
  refine ⟨by kernel_rfl, fun j t ht => ?_⟩
  rw [Tryd.params6] at ht
  have hm : t ∈ [25, 3, 22, 3] := by simpa using Array.mem_of_getElem? ht
  have hall : ([25, 3, 22, 3].all fun u => !Tryd.prog.wantsStandIn u) = true := by kernel_rfl
  exact (show Tryd.prog.wantsStandIn t = false by simpa using List.all_eq_true.1 hall t hm)
end Go.Proofs.YtlkameeaaplonaaDoor.measureCoarseMatchesSpec
namespace Go.Proofs.YtlkameeaaplonaaDoor
/-- The card. -/
theorem measureCoarseMatchesSpec_holds : Rows.MeasureCoarseMatchesSpecCardSaid :=
  Claim7.holds_tied_plain_at .later [] _ _ _ _ measureCoarseMatchesSpec.over (fun _ h => by cases h) (by kernel_rfl) (fun _ h => by cases h) measureCoarseMatchesSpec_row_tie rfl ⟨rfl, rfl⟩ (by kernel_rfl) rfl measureCoarseMatchesSpec.plain (by kernel_rfl)
#print axioms measureCoarseMatchesSpec_holds
end Go.Proofs.YtlkameeaaplonaaDoor
