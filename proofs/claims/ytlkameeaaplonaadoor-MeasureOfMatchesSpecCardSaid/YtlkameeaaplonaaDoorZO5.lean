/- The texts of the claim, part 5: each says in its own first line what is proved and its conditions. -/
import Derived.Deep.RegionHeld3
import Derived.Test.YtlkameeaaplonaaDoorQMeasureOfMatchesSpecx0
import Derived.Test.YtlkameeaaplonaaDoorQMeasureOfMatchesSpecx1
import Derived.Test.YtlkameeaaplonaaDoorQMeasureOfMatchesSpecx2
import Derived.Test.YtlkameeaaplonaaDoorQMeasureOfMatchesSpecx3
import Derived.Test.YtlkameeaaplonaaDoorQMeasureOfMatchesSpecx4
import Derived.Test.YtlkameeaaplonaaDoorQMeasureOfMatchesSpecx5
import Derived.Test.YtlkameeaaplonaaDoorQMeasureOfMatchesSpecx6
import Derived.Test.YtlkameeaaplonaaDoorTie
import Derived.Test.YtlkameeaaplonaaDoorCards
import Derived.Lib.LaidTab
import Derived.Lib.SmallJoins
import Derived.Lib.ItoaNum
import Derived.Lib.AppendIntMem
import Derived.Stop.LaidErr
import Derived.Deep.Slices
import Derived.WalkKit
import Derived.ProofKit
import Derived.OpenShut
import Derived.ShutString
import Derived.ChangeOld
import Derived.Below
import Derived.SizedLaws
import Derived.ChangeSame
import Derived.SevenTiedAt
import Derived.Carry
import Derived.LaidMore
import Derived.LaidLaws
import Derived.LaidHandle
import Derived.Stop.Joined
import Derived.Test.YtlkameeaaplonaaDoorZO1
import Derived.Test.YtlkameeaaplonaaDoorZO2
import Derived.Test.YtlkameeaaplonaaDoorZO3
import Derived.Test.YtlkameeaaplonaaDoorZO4
/- The reference's Of. Condition: none. -/
namespace Go.Proofs.YtlkameeaaplonaaDoor
open Go.RowKit Go.Proofs.YtlkameeaaplonaaDoor.QMeasureOfMatchesSpec Go.Proofs.YtlkameeaaplonaaDoorW.PrintWords Go.Proofs.YtlkameeaaplonaaDoorW.PrintLast Go.Proofs.YtlkameeaaplonaaDoorW.PrintMore
set_option linter.unusedVariables false
set_option linter.unusedSimpArgs false
theorem rform2 (x : Int) : dynamometerref9_fineBits.f x = some (decide (2 ≤ x ∧ x ≤ 8)) := by
  unfold dynamometerref9_fineBits.f
  by_cases h : 2 ≤ x
  · rw [if_pos h]; simp [h]
  · rw [if_neg h]; simp [h]
theorem place_ev {b : Nat} (h2 : 2 ≤ b) (h8 : b ≤ 8) {v : Int} (hv : okV v) : Ev (fun k => dynamometerref9_place.f k (b : Int) v) (bkt b v) := by
  have P := par_of b h2 h8
  obtain ⟨m, rfl⟩ := Int.eq_ofNat_of_zero_le hv.1
  have hm : m < 1125899906842624 := by omega
  rcases value_cases P m hm with h0 | ⟨j, h1, h3, hj⟩
  · refine ⟨1, fun k hk => ?_⟩
    obtain ⟨k, rfl⟩ : ∃ n, k = n + 1 := ⟨k - 1, by omega⟩
    rw [bkt_lo P m h0]
    exact place_lo P m k h0
  · refine ⟨j + 2, fun k hk => ?_⟩
    obtain ⟨n, rfl⟩ : ∃ n, k = j + n + 2 := ⟨k - (j + 2), by omega⟩
    rw [bkt_hi P m j h1 h3 hm]
    exact place_hi P m j n h1 h3 hm
/-- Good values. -/
def Fine (xs : List Int) : Prop := xs.length ≤ 20000 ∧ ∀ x ∈ xs, okV x
theorem bad_iff (x : Int) : bad x = false ↔ okV x := by
  unfold bad
  simp
  omega
theorem fault_zero {bits : Int} {xs : List Int} (h : fault bits xs = 0) : ∃ b : Nat, bits = (b : Int) ∧ 2 ≤ b ∧ b ≤ 8 ∧ Fine xs := by
  unfold fault at h
  split at h
  · cases h
  · split at h
    · cases h
    · split at h
      · cases h
      · rename_i h1 h2 h3
        refine ⟨bits.toNat, by omega, by omega, by omega, by omega, fun x hx => (bad_iff x).1 ?_⟩
        cases hb : bad x with
        | false => rfl
        | true => exact absurd (List.any_eq_true.2 ⟨x, hx, hb⟩) h3
theorem fault_fine {b : Nat} (h2 : 2 ≤ b) (h8 : b ≤ 8) {xs : List Int} (h : Fine xs) : fault (b : Int) xs = 0 := by
  unfold fault
  rw [if_neg (by omega), if_neg (by have := h.1; omega), if_neg]
  intro h3
  obtain ⟨x, hx, hb⟩ := List.any_eq_true.1 h3
  rw [(bad_iff x).2 (h.2 x hx)] at hb
  cases hb
theorem fault_range (bits : Int) (xs : List Int) : 0 ≤ fault bits xs ∧ fault bits xs ≤ 20 := by
  unfold fault
  split
  · decide
  · split
    · decide
    · split <;> decide
theorem rdI {xs : List Int} {i : Nat} (h : i < xs.length) : rd xs (i : Int) = xs[i] := by simp [rd, List.getD, List.getElem?_eq_getElem h]
theorem vf_loop (xs : List Int) (hl : xs.length ≤ 20000) : ∀ d i : Nat, i + d = xs.length → Ev (fun k => dynamometerref9_valuesFault.l0 k xs (i : Int)) (if (xs.drop i).any bad then 9 else 0) := by
  intro d
  induction d with
  | zero =>
    intro i hi
    rw [List.drop_of_length_le (by omega), List.any_nil, if_neg (by decide)]
    refine Ev.step (f := fun _ => some 0) (fun k => ?_) (Ev.now _)
    rw [dynamometerref9_valuesFault.l0, if_neg (by omega)]
  | succ d ih =>
    intro i hi
    have hil : i < xs.length := by omega
    have h := ih (i + 1) (by omega)
    have hr := rdI hil
    rw [List.drop_eq_getElem_cons hil, List.any_cons, ← hr]
    generalize rd xs (i : Int) = x at hr ⊢
    have hx : rd xs (i : Int) = x := by rw [rdI hil, ← hr]
    by_cases h1 : x < 0
    · have hb : bad x = true := by unfold bad; simp; omega
      rw [hb, Bool.true_or, if_pos rfl]
      refine Ev.step (f := fun _ => some 9) (fun k => ?_) (Ev.now _)
      rw [dynamometerref9_valuesFault.l0, if_pos (by omega), if_pos (by omega), hx, if_pos h1]
    · by_cases h2 : x > 1125899906842623
      · have hb : bad x = true := by unfold bad; simp; omega
        rw [hb, Bool.true_or, if_pos rfl]
        refine Ev.step (f := fun _ => some 9) (fun k => ?_) (Ev.now _)
        rw [dynamometerref9_valuesFault.l0, if_pos (by omega), if_pos (by omega), hx, if_neg h1, if_pos h2]
      · have hb : bad x = false := (bad_iff x).2 ⟨by omega, by omega⟩
        rw [hb, Bool.false_or]
        refine Ev.step (fun k => ?_) h
        rw [dynamometerref9_valuesFault.l0, if_pos (by omega), if_pos (by omega), hx, if_neg h1, if_neg h2, add1N i (by omega)]
/-- The fault of values, by the reference. -/
theorem vf_ev (bits : Int) (xs : List Int) : Ev (fun k => dynamometerref9_valuesFault.f k bits xs) (fault bits xs) := by
  unfold fault
  by_cases h : 2 ≤ bits ∧ bits ≤ 8
  · rw [if_neg (by omega)]
    by_cases h1 : xs.length > 20000
    · rw [if_pos h1]
      refine Ev.congr (f := fun _ => some 3) (fun k => ?_) (Ev.now _)
      unfold dynamometerref9_valuesFault.f
      rw [rform2, decide_eq_true h, Option.bind_some, if_pos rfl, if_pos (by omega)]
    · rw [if_neg h1]
      refine Ev.congr (fun k => ?_) (vf_loop xs (by omega) xs.length 0 (by omega))
      unfold dynamometerref9_valuesFault.f
      rw [rform2, decide_eq_true h, Option.bind_some, if_pos rfl, if_neg (by omega)]
      rfl
  · rw [if_pos (by omega)]
    refine Ev.congr (f := fun _ => some 9) (fun k => ?_) (Ev.now _)
    unfold dynamometerref9_valuesFault.f
    rw [rform2, decide_eq_false h]
    rfl
/-- How many values stand in a bucket. -/
def cntF (b : Nat) (xs : List Int) (y : Int) : Int := ((xs.map (bkt b)).count y : Int)
theorem cntF_snoc (b : Nat) (xs : List Int) (v y : Int) : cntF b (xs ++ [v]) y = cntF b xs y + if bkt b v = y then 1 else 0 := by
  unfold cntF
  rw [List.map_append, List.count_append, List.map_cons, List.map_nil, List.count_singleton]
  by_cases h : bkt b v = y
  · simp [h]
  · simp [h]
theorem cntF_nonneg (b : Nat) (xs : List Int) (y : Int) : 0 ≤ cntF b xs y := by unfold cntF; omega
theorem cntF_le (b : Nat) (xs : List Int) (y : Int) : cntF b xs y ≤ (xs.length : Int) := by
  unfold cntF
  have := List.count_le_length (a := y) (l := xs.map (bkt b))
  rw [List.length_map] at this
  omega
theorem isH_bound {F : Int → Int} {m : Nat} {l : List S44} (h : IsH F m l) {B : Int} (hB : ∀ y, F y ≤ B) : ∀ s ∈ l, 0 < s.f1 ∧ s.f1 ≤ B := fun s hs' => by
  obtain ⟨h1, h2⟩ := (h.hist.mem s).1 hs'
  have := hB s.f0
  omega
section
variable {b : Nat} (h2 : 2 ≤ b) (h8 : b ≤ 8)
include h2 h8
theorem of_loop (xs : List Int) (hx : Fine xs) : ∀ (d i : Nat) (l : List S44), i + d = xs.length → IsH (cntF b (xs.take i)) i l → ∃ r, Ev (fun k => dynamometerref9_of.l0 k (b : Int) xs (i : Int) (b : Int) l) ((b : Int), r) ∧ IsH (cntF b xs) xs.length r := by
  have hn := hx.1
  intro d
  induction d with
  | zero =>
    intro i l hi hl
    have e : i = xs.length := by omega
    subst e
    rw [List.take_length] at hl
    refine ⟨l, Ev.step (f := fun _ => some ((b : Int), l)) (fun k => ?_) (Ev.now _), hl⟩
    rw [dynamometerref9_of.l0, if_neg (by omega)]
  | succ d ih =>
    intro i l hi hl
    have hil : i < xs.length := by omega
    have hin : rd xs (i : Int) ∈ xs := by rw [rdI hil]; exact List.getElem_mem _
    have hv := hx.2 _ hin
    have htk : xs.take (i + 1) = xs.take i ++ [rd xs (i : Int)] := by rw [List.take_succ_eq_append_getElem hil, rdI hil]
    have hp := place_ev h2 h8 hv
    have hbd := isH_bound hl (B := 20000) (fun y => by have := cntF_le b (xs.take i) y; rw [List.length_take] at this; omega)
    have hm := more_ev (bkt b (rd xs (i : Int))) 1 (b : Int) l (by have := hl.len; omega) (fun s hs' => by have := hbd s hs'; omega)
    have hl' := isH_more hl (cntF_nonneg b _) (bkt b (rd xs (i : Int))) 1 (by decide)
    obtain ⟨r, hr, hr'⟩ := ih (i + 1) _ (by omega) ⟨hl'.hist.congr (fun y => by rw [htk, cntF_snoc]), hl'.len⟩
    obtain ⟨K1, e1⟩ := hp
    obtain ⟨K2, e2⟩ := hm
    obtain ⟨K3, e3⟩ := hr
    refine ⟨r, ⟨K1 + K2 + K3 + 1, fun k hk => ?_⟩, hr'⟩
    obtain ⟨k, rfl⟩ : ∃ n, k = n + 1 := ⟨k - 1, by omega⟩
    have f1 := e1 k (by omega)
    have f2 := e2 k (by omega)
    have f3 := e3 k (by omega)
    simp only at f1 f2 f3 ⊢
    rw [dynamometerref9_of.l0, if_pos (by omega), if_pos (by omega), f1, Option.bind_some, f2, Option.bind_some, add1N i (by omega)]
    exact f3
/-- The reference's Of, of good values. -/
theorem Of_fine (xs : List Int) (hx : Fine xs) : ∃ r, Ev (fun k => dynamometerref9_Of.f k (b : Int) xs) ((b : Int), r, 0) ∧ IsH (cntF b xs) xs.length r := by
  obtain ⟨r, hr, hr'⟩ := of_loop h2 h8 xs hx xs.length 0 [] (by omega) ⟨(isH_nil 0).hist.congr (fun y => by simp [cntF]), by simp⟩
  have hv := vf_ev (b : Int) xs
  rw [fault_fine h2 h8 hx] at hv
  obtain ⟨K1, e1⟩ := hv
  obtain ⟨K2, e2⟩ := hr
  refine ⟨r, ⟨K1 + K2, fun k hk => ?_⟩, hr'⟩
  have f1 := e1 k (by omega)
  have f2 := e2 k (by omega)
  simp only at f1 f2 ⊢
  unfold dynamometerref9_Of.f dynamometerref9_of.f
  rw [f1, Option.bind_some, if_pos rfl, show (0 : Int) = ((0 : Nat) : Int) from rfl, f2]
  rfl
end
/-- The reference's Of, with a fault. -/
theorem Of_fault (bits : Int) (xs : List Int) (h : fault bits xs ≠ 0) : Ev (fun k => dynamometerref9_Of.f k bits xs) (0, [], fault bits xs) := by
  obtain ⟨K1, e1⟩ := vf_ev bits xs
  refine ⟨K1, fun k hk => ?_⟩
  have f1 := e1 k (by omega)
  simp only at f1 ⊢
  unfold dynamometerref9_Of.f
  rw [f1, Option.bind_some, if_neg h]
end Go.Proofs.YtlkameeaaplonaaDoor

/- Record, by measure and by its reference: the same answer for all histograms and values. -/
namespace Go.Proofs.YtlkameeaaplonaaDoor
open Go.Shelf Go.RowKit Go.Maps Go.Proofs.YtlkameeaaplonaaDoor.QMeasureOfMatchesSpec
open Go.Proofs.YtlkameeaaplonaaDoorW.PrintWords Go.Proofs.YtlkameeaaplonaaDoorW.PrintLast Go.Proofs.YtlkameeaaplonaaDoorW.PrintMore
set_option linter.unusedVariables false
theorem isH_valid {b : Nat} {l : List S44} (h : Valid b l) : IsH (hs l) l.length l := ⟨isHist_hs h.rising (fun s hs' => by have := h.pos s hs'; omega), Nat.le_refl _⟩
theorem hs_valid0 {b : Nat} {l : List S44} (h : Valid b l) (y : Int) : 0 ≤ hs l y := hs_nonneg y l (fun s hs' => by have := h.pos s hs'; omega)
theorem hs_valid1 {b : Nat} {l : List S44} (h : Valid b l) (y : Int) : hs l y ≤ tot l := hs_le_tot y l (fun s hs' => by have := h.pos s hs'; omega)
theorem moreF_f0 {x n : Int} {l : List S44} {P : Int → Prop} (hx : P x) (h : ∀ s ∈ l, P s.f0) : ∀ s ∈ moreF x n l, P s.f0 := fun s hs' => by
  unfold moreF at hs'
  split at hs'
  · exact h s hs'
  · rcases moreL_mem x n s l hs' with e | ⟨t, ht, e⟩
    · rw [e]
      exact hx
    · rw [← e]
      exact h t ht
theorem rec_both (bits : Int) (l : List S44) (v n : Int) (hwf : ∀ s ∈ l, s.f0 ≤ 9223372036854775807) : ∃ r : Res, Tell r ∧ Ev (fun k => dynamometerref9_Record.f k bits l v n) r ∧
    ∀ (A : Option Addr) (c : Nat) (w : World), Kd.C k44 w A l.length l → l.length ≤ c → Ans 14 #[.agg #[.int .i64 bits, .slice A l.length c], .int .i64 v, .int .i64 n] w r := by
  obtain ⟨e, hm, hr, hrange, he⟩ := chk_all bits l hwf
  obtain ⟨K1, e1⟩ := hr
  obtain ⟨k0, hk0⟩ := hm.rounds
  by_cases h0 : e = 0
  · subst h0
    obtain ⟨b, rfl, hV⟩ := he.1 rfl
    have htot := total_ev (b : Int) hV.pos hV.total (by have := valid_len hV; omega)
    obtain ⟨k1, hk1⟩ := htot.rounds
    obtain ⟨K2, e2⟩ := rtotal_ev (b : Int) hV.pos hV.total (by have := valid_len hV; omega)
    have ht0 := tot_nonneg l (fun s hs' => by have := hV.pos s hs'; omega)
    have ht1 := hV.total
    have hj : ∀ q : Bool, q = true → Ev (fun k => dynamometerref9_Record.j0 k v n q (b : Int) l) (0, [], 9) := fun q hq => ⟨1, fun k hk => by
      obtain ⟨k, rfl⟩ : ∃ m, k = m + 1 := ⟨k - 1, by omega⟩
      show dynamometerref9_Record.j0 (k + 1) v n q (b : Int) l = _
      rw [dynamometerref9_Record.j0, if_pos hq]⟩
    obtain ⟨K3, e3⟩ := hj true rfl
    by_cases hg : okV v ∧ 0 ≤ n ∧ n ≤ 1125899906842624
    · obtain ⟨hv, hn0, hn1⟩ := hg
      have hw : wrap64 (tot l + n) = tot l + n := w64 (by omega) (by omega)
      have hd : decide (n > 1125899906842624) = false := decide_eq_false (by omega)
      by_cases hs3 : tot l + n > 1125899906842624
      · refine ⟨(0, [], 3), tell_fault (by decide), ⟨K1 + K2 + 1, fun k hk => ?_⟩, fun A c w hC hc => ?_⟩
        · obtain ⟨k, rfl⟩ : ∃ m, k = m + 1 := ⟨k - 1, by omega⟩
          have f1 := e1 (k + 1) (by omega)
          have f2 := e2 k (by omega)
          simp only at f1 f2 ⊢
          unfold dynamometerref9_Record.f
          rw [f1, Option.bind_some, if_pos rfl, if_neg (by omega), if_neg (by omega), if_neg (by omega), hd, dynamometerref9_Record.j0, if_neg (by decide), f2, Option.bind_some, hw, if_pos hs3]
        · exact rec14f (b : Int) A c l v n 3 w hC hc (.inr (.inr ⟨rfl, ⟨k0, hk0⟩, decide_eq_false (by omega), decide_eq_false (by omega), decide_eq_false (by omega), decide_eq_false (by omega), k1, tot l, hk1, ht0, ht1, hn0, hn1, decide_eq_true hs3⟩))
      · have hp := place_ev hV.b2 hV.b8 hv
        obtain ⟨K4, e4⟩ := hp
        have hbd := valid_bound hV
        have hbk := (bkt_ok hV.b2 hV.b8 hv).2.2
        obtain ⟨K5, e5⟩ := more_ev (bkt b v) n (b : Int) l (by have := valid_len hV; omega) (fun s hs' => by have := hbd s hs'; omega)
        have hH := isH_more (isH_valid hV) (hs_valid0 hV) (bkt b v) n hn0
        have hlen := valid_len hV
        have hfb := fun y => hs_valid1 hV y
        have hF : ∀ s ∈ moreF (bkt b v) n l, 0 < s.f1 ∧ s.f1 ≤ 1125899906842624 + 1125899906842624 := isH_bound hH (fun y => by have := hfb y; split <;> omega)
        have hf0 : ∀ s ∈ moreF (bkt b v) n l, 0 ≤ s.f0 ∧ s.f0 ≤ 6655 := moreF_f0 (P := fun z => 0 ≤ z ∧ z ≤ 6655) hbk (fun s hs' => (hbd s hs').1)
        have hb2 := hV.b2
        have hb8 := hV.b8
        refine ⟨((b : Int), moreF (bkt b v) n l, 0), ⟨⟨by show _ ≤ (b : Int); omega, by show (b : Int) ≤ _; omega⟩, ⟨show (-9223372036854775808 : Int) ≤ 0 by decide, show (0 : Int) ≤ 9223372036854775807 by decide⟩, by have := hH.len; show (moreF (bkt b v) n l).length ≤ _; omega, fun s hs' => ?_⟩, ⟨K1 + K2 + K4 + K5 + 1, fun k hk => ?_⟩, fun A c w hC hc => ?_⟩
        · have h1 := hF s hs'
          have h2 := hf0 s hs'
          exact ⟨⟨by omega, by omega⟩, by omega, by omega⟩
        · obtain ⟨k, rfl⟩ : ∃ m, k = m + 1 := ⟨k - 1, by omega⟩
          have f1 := e1 (k + 1) (by omega)
          have f2 := e2 k (by omega)
          have f4 := e4 k (by omega)
          have f5 := e5 k (by omega)
          simp only at f1 f2 f4 f5 ⊢
          unfold dynamometerref9_Record.f
          rw [f1, Option.bind_some, if_pos rfl, if_neg (by omega), if_neg (by omega), if_neg (by omega), hd, dynamometerref9_Record.j0, if_neg (by decide), f2, Option.bind_some, hw, if_neg hs3, f4, Option.bind_some, f5]
          rfl
        · refine (rec14g b A c l v n w hV hC hc hv hn0 hn1 (by omega)).mono fun e w' ⟨P, d, r, he', h1, h2, h3, h4⟩ => ?_
          obtain rfl := hist_unique h4 hH.hist
          exact ⟨P, d, he', h1, h2, h3⟩
    · have hd9 : ∃ q : Bool, q = true ∧ ∀ k, dynamometerref9_Check.f k (b : Int) l = some 0 → dynamometerref9_Record.f k (b : Int) l v n = dynamometerref9_Record.j0 k v n q (b : Int) l := by
        refine ⟨true, rfl, fun k f1 => ?_⟩
        unfold dynamometerref9_Record.f
        rw [f1, Option.bind_some, if_pos rfl]
        by_cases h1 : v < 0
        · rw [if_pos h1]
        · rw [if_neg h1]
          by_cases h2 : v > 1125899906842623
          · rw [if_pos h2]
          · rw [if_neg h2]
            by_cases h3 : n < 0
            · rw [if_pos h3]
            · rw [if_neg h3, decide_eq_true (by omega)]
      obtain ⟨q, hq, hqe⟩ := hd9
      subst hq
      refine ⟨(0, [], 9), tell_fault (by decide), ⟨K1 + K3, fun k hk => ?_⟩, fun A c w hC hc => ?_⟩
      · have f1 := e1 k (by omega)
        have f3 := e3 k (by omega)
        simp only at f1 f3 ⊢
        rw [hqe k f1, f3]
      · refine rec14f (b : Int) A c l v n 9 w hC hc (.inr (.inl ⟨rfl, ⟨k0, hk0⟩, ?_⟩))
        by_cases h1 : v < 0
        · exact .inl (decide_eq_true h1)
        · by_cases h2 : 1125899906842623 < v
          · exact .inr (.inl ⟨decide_eq_false h1, decide_eq_true h2⟩)
          · by_cases h3 : n < 0
            · exact .inr (.inr (.inl ⟨decide_eq_false h1, decide_eq_false h2, decide_eq_true h3⟩))
            · exact .inr (.inr (.inr ⟨decide_eq_false h1, decide_eq_false h2, decide_eq_false h3, decide_eq_true (by omega)⟩))
  · refine ⟨(0, [], e), tell_fault hrange, ⟨K1, fun k hk => ?_⟩, fun A c w hC hc => ?_⟩
    · have f1 := e1 k (by omega)
      simp only at f1 ⊢
      unfold dynamometerref9_Record.f
      rw [f1, Option.bind_some, if_neg h0]
    · exact rec14f bits A c l v n e w hC hc (.inl ⟨k0, hk0, by simpa using h0⟩)
end Go.Proofs.YtlkameeaaplonaaDoor

/- Of, by measure and by its reference: the same answer for all values. -/
namespace Go.Proofs.YtlkameeaaplonaaDoor
open Go.Shelf Go.RowKit Go.Maps Go.Proofs.YtlkameeaaplonaaDoor.QMeasureOfMatchesSpec
open Go.Proofs.YtlkameeaaplonaaDoorW.PrintWords Go.Proofs.YtlkameeaaplonaaDoorW.PrintLast Go.Proofs.YtlkameeaaplonaaDoorW.PrintMore
set_option linter.unusedVariables false
/-- What is known of the histogram of good values. -/
theorem fine_facts {b : Nat} (h2 : 2 ≤ b) (h8 : b ≤ 8) {xs : List Int} (hx : Fine xs) {r : List S44} (hH : IsHist (cntF b xs) r) : ∀ s ∈ r, (0 ≤ s.f0 ∧ s.f0 ≤ 6655) ∧ 1 ≤ s.f1 ∧ s.f1 ≤ 20000 := fun s hs' => by
  obtain ⟨h3, h4⟩ := (hH.mem s).1 hs'
  have h5 := cntF_le b xs s.f0
  have h6 := hx.1
  have h7 : s.f0 ∈ xs.map (bkt b) := by
    refine List.count_pos_iff.1 ?_
    unfold cntF at h3
    omega
  obtain ⟨v, hv, e⟩ := List.mem_map.1 h7
  have h8' := (bkt_ok h2 h8 (hx.2 v hv)).2.2
  rw [e] at h8'
  exact ⟨h8', by omega, by omega⟩
theorem Of_both (bits : Int) (xs : List Int) : ∃ r : Res, Tell r ∧ Ev (fun k => dynamometerref9_Of.f k bits xs) r ∧
    (∀ (A : Option Addr) (c : Nat) (w : World), Kd.C (Kd.int .i64) w A xs.length xs → Ans 12 #[.int .i64 bits, .slice A xs.length c] w r) ∧
    (r = (0, [], fault bits xs) ∧ fault bits xs ≠ 0 ∨ ∃ b : Nat, bits = (b : Int) ∧ 2 ≤ b ∧ b ≤ 8 ∧ Fine xs ∧ ∃ l, r = ((b : Int), l, 0) ∧ IsH (cntF b xs) xs.length l) := by
  by_cases h : fault bits xs = 0
  · obtain ⟨b, rfl, h2, h8, hx⟩ := fault_zero h
    obtain ⟨l, hev, hH⟩ := Of_fine h2 h8 xs hx
    have hff := fine_facts h2 h8 hx hH.hist
    refine ⟨((b : Int), l, 0), ⟨⟨by show _ ≤ (b : Int); omega, by show (b : Int) ≤ _; omega⟩, ⟨show (-9223372036854775808 : Int) ≤ 0 by decide, show (0 : Int) ≤ 9223372036854775807 by decide⟩, by have := hH.len; have := hx.1; show l.length ≤ _; omega, fun s hs' => ?_⟩, hev, fun A c w hC => ?_, .inr ⟨b, rfl, h2, h8, hx, l, rfl, hH⟩⟩
    · have := hff s hs'
      exact ⟨⟨by omega, by omega⟩, by omega, by omega⟩
    · refine (Of11 (b : Int) 1 (bkt b) A xs.length c xs w hC h (fun x hx' => (bkt_ok h2 h8 (hx.2 x hx')).1 0) (fun x hx' => ?_)).mono ?_
      · have := (bkt_ok h2 h8 (hx.2 x hx')).2.2
        exact WalkArith.wf_i64 (by omega)
      · rintro e w' ⟨v, r, rfl, hV, hB, hT⟩
        obtain rfl := hist_unique (tally_hist hT) hH.hist
        obtain ⟨P, d, rfl, hd, hC'⟩ := ans_of_V hV
        exact ⟨P, d, rfl, hd, hC', hB⟩
  · refine ⟨(0, [], fault bits xs), tell_fault (fault_range bits xs), Of_fault bits xs h, fun A c w hC => ?_, .inl ⟨rfl, h⟩⟩
    refine (Of11f bits A xs.length c xs w hC h).mono ?_
    rintro e w' ⟨rfl, hB⟩
    exact ⟨none, 0, rfl, Nat.le_refl _, C_nil _, hB⟩
end Go.Proofs.YtlkameeaaplonaaDoor

/- counts answers true. Condition: none. -/
namespace Go.Proofs.YtlkameeaaplonaaDoor
open Go.Shelf Go.RowKit Go.Maps Go.Proofs.YtlkameeaaplonaaDoor.QMeasureOfMatchesSpec
open Go.Proofs.YtlkameeaaplonaaDoorW.PrintWords
theorem bucket3 : ∀ x ∈ ([5, 1, 4] : List Int), measure_bucket.f 3 2 x = some (bk3 x) := by
  intro x hx
  simp only [List.mem_cons, List.not_mem_nil, or_false] at hx
  rcases hx with rfl | rfl | rfl <;> kernel_rfl
set_option maxRecDepth 100000 in
set_option maxHeartbeats 4000000 in
theorem counts10 (w : World) : Calls Tryd.prog 16 #[] w fun e w' => e = .returned (.bool true) ∧ Below w.heap.size w w' := by
  have hC0 : Kd.C (Kd.int .i64) (w.alloc (.cells #[.int .i64 5, .int .i64 1, .int .i64 4] 3)) (some ⟨w.heap.size, 0, none⟩) 3 [5, 1, 4] := by
    have h := World.ownsRow_lit (base := 0) (e := 3) (size := 1) w #[.int .i64 5, .int .i64 1, .int .i64 4] 3 (Nat.zero_le _) (by decide) rfl
    exact (C_own (xs := [5, 1, 4]) (B := 0) ⟨h, by decide⟩).2.2
  go_enter Tryd.func16, Tryd.ntmps16
  go_wp2_with (first
    | (go_at_call 12; refine (Of11 2 3 bk3 (some ⟨w.heap.size, 0, none⟩) 3 3 [5, 1, 4] _ hC0 (by decide) bucket3 (by decide)).mono ?_; rintro e w4 ⟨v4, r4, rfl, hV4, hB4, ht4⟩; obtain rfl := tally_unique ht4 tally3; obtain ⟨A4, c4, rfl⟩ := Kd.V_slice hV4; obtain ⟨ad, rfl, q0, q1⟩ := at_T44 (Kd.C_below (Kd.V_reads' hV4).2.2 ((Below.refl _ w4).alloc (Nat.le_refl _) (.cells #[.int .i64 2, .slice A4 2 c4] 25))) 1 (by decide) (by decide); have q0' : (w4.alloc (.cells #[.int .i64 2, .slice (some ad) 2 c4] 25)).cell? ⟨ad.block, ad.off + 2, none⟩ = some (.int .i64 4) := q0; have q1' : (w4.alloc (.cells #[.int .i64 2, .slice (some ad) 2 c4] 25)).cell? ⟨ad.block, ad.off + 2 + 1, none⟩ = some (.int .i64 2) := q1)
    | go_in)
  go_ret
  refine ⟨rfl, ?_⟩
  have hB0 : Below w.heap.size w (w.alloc (.cells #[.int .i64 5, .int .i64 1, .int .i64 4] 3)) := (Below.refl _ _).alloc (Nat.le_refl _) _
  have hB1 := hB0.trans (Below.mono hB4 (by simp))
  exact hB1.alloc hB1.size _
end Go.Proofs.YtlkameeaaplonaaDoor

/- The walk of the law MeasureOfMatchesSpec. Conditions: the lists lie in memory as they are read; the table of powers of ten lies below. -/
namespace Go.Proofs.YtlkameeaaplonaaDoor
open Go.Shelf Go.RowKit Go.Maps Go.Proofs.YtlkameeaaplonaaDoor.QMeasureOfMatchesSpec
open Go.Proofs.YtlkameeaaplonaaDoorW.PrintWords Go.Proofs.YtlkameeaaplonaaDoorW.PrintLast Go.Proofs.YtlkameeaaplonaaDoorW.PrintMore
set_option linter.unusedVariables false
theorem eqE (e : Int) : (e == e) = true := by simp
set_option maxRecDepth 100000 in
set_option maxHeartbeats 8000000 in
theorem lawOf3 (bits hb v n : Int) (A1 A2 : Option Addr) (c1 c2 : Nat) (xs : List Int) (l : List S44) (w : World) (hC1 : Kd.C (Kd.int .i64) w A1 xs.length xs) (hc1 : xs.length ≤ c1) (hC2 : Kd.C k44 w A2 l.length l) (hc2 : l.length ≤ c2)
    (hwf : ∀ s ∈ l, s.f0 ≤ 9223372036854775807) (htab : Pow10 w) :
    Calls Tryd.prog 3 #[.int .i64 bits, .slice A1 xs.length c1, .agg #[.int .i64 hb, .slice A2 l.length c2], .int .i64 v, .int .i64 n] w fun e w' => e = .returned (.bool true) ∧ Below w.heap.size w w' := by
  obtain ⟨W0, hW0⟩ : ∃ W0, w.alloc (.cells #[.int .i64 hb, .slice A2 l.length c2] 25) = W0 := ⟨_, rfl⟩
  have hB0 : Below w.heap.size w W0 := by rw [← hW0]; exact (Below.refl _ w).alloc (Nat.le_refl _) _
  have hs0 : W0.heap.size = w.heap.size + 1 := by rw [← hW0]; simp
  have b0 : W0.heap[w.heap.size]? = some (hbx hb A2 l.length c2) := by rw [← hW0]; exact heap_alloc_new w _
  have hfr : ∀ W : World, Below W0.heap.size W0 W → (W.cell? ⟨w.heap.size, 0, none⟩ = some (.int .i64 hb) ∧ W.cell? ⟨w.heap.size, 1, none⟩ = some (.slice A2 l.length c2)) ∧ Below W0.heap.size W0 W := fun W h =>
    ⟨bx_cells ((h.block _ (by omega)).trans b0), h⟩
  have hUp : ∀ W, Below W0.heap.size W0 W → Below w.heap.size w W := fun W h => hB0.trans (Below.mono h (by omega))
  have hCa : ∀ W, Below W0.heap.size W0 W → Kd.C (Kd.int .i64) W A1 xs.length xs := fun W h => Kd.C_below hC1 (hUp W h)
  have hCb : ∀ W, Below W0.heap.size W0 W → Kd.C k44 W A2 l.length l := fun W h => Kd.C_below hC2 (hUp W h)
  obtain ⟨e, hm, hr, _, _⟩ := chk_all hb l hwf
  obtain ⟨k1, hk1⟩ := hm.rounds
  obtain ⟨k2, hk2⟩ := hr.rounds
  obtain ⟨r, hT, hRe, hMo, _⟩ := Of_both bits xs
  obtain ⟨k3, hk3⟩ := hRe.rounds
  obtain ⟨q, hTq, hRq, hMq⟩ := rec_both hb l v n hwf
  obtain ⟨k4, hk4⟩ := hRq.rounds
  have a1 := fun W (h : Below W0.heap.size W0 W) => measure_Check.calls k1 hb A2 c2 l e W (hCb W h) hc2 hk1
  have a2 := fun W (h : Below W0.heap.size W0 W) => dynamometerref9_Check.calls k2 hb A2 c2 l e W (hCb W h) hc2 hk2
  have a3 := fun W (h : Below W0.heap.size W0 W) => hMo A1 c1 W (hCa W h)
  have a4 := fun W (h : Below W0.heap.size W0 W) => ans_of_R (dynamometerref9_Of.calls k3 bits A1 c1 xs r.1 r.2.1 r.2.2 W (hCa W h) hc1 hk3)
  have a5 := fun W (h : Below W0.heap.size W0 W) => hMq A2 c2 W (hCb W h) hc2
  have a6 := fun W (h : Below W0.heap.size W0 W) => ans_of_R (dynamometerref9_Record.calls k4 hb A2 c2 l v n q.1 q.2.1 q.2.2 W (hCb W h) hc2 hk4)
  have t1 := fun {W : World} {P : Option Addr} {d : Nat} (hC : Kd.C k44 W P r.2.1.length r.2.1) (h : Below W0.heap.size W0 W) => tellRes r hT (d := d) hC (hUp W h) htab
  have t2 := fun {W : World} {P : Option Addr} {d : Nat} (hC : Kd.C k44 W P q.2.1.length q.2.1) (h : Below W0.heap.size W0 W) => tellRes q hTq (d := d) hC (hUp W h) htab
  have hee := eqE e
  clear hk1 hk2 hk3 hk4 hm hr hRe hRq hMo hMq hT hTq hwf hC1 hC2 b0 hCa hCb
  have hBd := (Below.refl W0.heap.size W0).drew
  have hS0 := hfr W0.drew hBd
  have up1 : ∀ {W W' : World}, Below W0.heap.size W0 W → Below W.heap.size W W' → Below W0.heap.size W0 W' := fun h h' => h.trans (Below.mono h' h.size)
  go_enter Tryd.func3, Tryd.ntmps3
  go_wp2
  clear hW0
  go_region_held3 (fun W => (W.cell? ⟨w.heap.size, 0, none⟩ = some (.int .i64 hb) ∧ W.cell? ⟨w.heap.size, 1, none⟩ = some (.slice A2 l.length c2)) ∧ Below W0.heap.size W0 W) (first | assumption | exact hS0)
    (first | (go_at_call 16; refine (counts10 _).mono ?_; rintro e w11 ⟨rfl, hBt⟩; have hS11 := hfr w11 (up1 hS10.2 hBt))
           | (go_at_call 11; refine (t2 hC9 hS9.2).mono ?_; rintro e w10 ⟨rfl, hBt⟩; have hS10 := hfr w10 (up1 hS9.2 hBt))
           | (go_at_call 15; refine (a6 w8 hS8.2).mono ?_; rintro e w9 ⟨P9, d9, rfl, hd9, hC9, hBt⟩; have hS9 := hfr w9 (up1 hS8.2 hBt))
           | (go_at_call 11; refine (t2 hC7 hS7.2).mono ?_; rintro e w8 ⟨rfl, hBt⟩; have hS8 := hfr w8 (up1 hS7.2 hBt))
           | (go_at_call 14; refine (a5 w6 hS6.2).mono ?_; rintro e w7 ⟨P7, d7, rfl, hd7, hC7, hBt⟩; have hS7 := hfr w7 (up1 hS6.2 hBt))
           | (go_at_call 11; refine (t1 hC5 hS5.2).mono ?_; rintro e w6 ⟨rfl, hBt⟩; have hS6 := hfr w6 (up1 hS5.2 hBt))
           | (go_at_call 13; refine (a4 w4 hS4.2).mono ?_; rintro e w5 ⟨P5, d5, rfl, hd5, hC5, hBt⟩; have hS5 := hfr w5 (up1 hS4.2 hBt))
           | (go_at_call 11; refine (t1 hC3 hS3.2).mono ?_; rintro e w4 ⟨rfl, hBt⟩; have hS4 := hfr w4 (up1 hS3.2 hBt))
           | (go_at_call 12; refine (a3 w2 hS2.2).mono ?_; rintro e w3 ⟨P3, d3, rfl, hd3, hC3, hBt⟩; have hS3 := hfr w3 (up1 hS2.2 hBt))
           | (go_at_call 10; refine (a2 w1 hS1.2).mono ?_; rintro e w2 ⟨rfl, hBt⟩; have hS2 := hfr w2 (up1 hS1.2 hBt))
           | (go_at_call 9; refine (a1 _ hBd).mono ?_; rintro e w1 ⟨rfl, hBt⟩; have hS1 := hfr w1 (up1 hBd hBt)))
  go_wp2
  go_ret
  exact ⟨rfl, hUp _ hS11.2⟩
end Go.Proofs.YtlkameeaaplonaaDoor

/- What a row opens: ints, lists of ints, histograms; the table of powers of ten out of the row's list. Condition: none. -/
namespace Go.Proofs.YtlkameeaaplonaaDoor.DRow
open Go.ChangeShapes Go.WideShapes Go.ChangeAt Go.RowKit Go.Deep Go.Proofs.YtlkameeaaplonaaDoor.QMeasureOfMatchesSpec
open Go.Proofs.YtlkameeaaplonaaDoorW.PrintWords
set_option linter.unusedVariables false
section
variable {H : Type} {enc : TypeId × Value → H} {w : World} {base : Nat} {spare : Nat → Bool} {held : Bool}
/-- A slice, from its cells; its elements by their own law. -/
theorem slice_open {α : Type} (d : Kd α) (Q : α → Prop) {t e : TypeId} (ht : Tryd.prog.underlying t = some (.slice e)) (hc : Tryd.prog.cellsOf e = d.sz)
    (elem : ∀ {fuel : Nat} {cs : List Value} {x : DataW H × List MemPlace}, DataW.trod enc Tryd.prog w base spare held fuel e cs = some x → ∃ s : α, d.K w s cs ∧ Q s)
    {fuel : Nat} {cs : List Value} {x : DataW H × List MemPlace} (hf : DataW.trod enc Tryd.prog w base spare held fuel t cs = some x) :
    ∃ (a : Option Addr) (len cap : Nat) (l : List α), cs = [.slice a len cap] ∧ l.length = len ∧ len ≤ cap ∧ Kd.C d w a len l ∧ ∀ s ∈ l, Q s := by
  rcases open_slice ht hf with ⟨hcs, _⟩ | ⟨x, ln, c, m, n, D, Pl, hcs, _, hl, hm, hmm, _, hx⟩
  · exact ⟨none, 0, 0, [], hcs, rfl, Nat.le_refl _, ⟨rfl, by omega, fun h => absurd h (by omega)⟩, by simp⟩
  · have hlm : ln ≤ m := by rw [hmm]; split <;> omega
    have each : ∀ i, i < ln → ∃ (s : α) (cs' : List Value), w.cells? base (x.add (i * d.sz)) d.sz = some cs' ∧ d.K w s cs' ∧ Q s := by
      intro i hi
      obtain ⟨cs', h1, h2⟩ := hx i (by omega)
      obtain ⟨s, hs⟩ := elem h2
      rw [hc] at h1
      exact ⟨s, cs', h1, hs⟩
    have hsome : ∀ n : Nat, n ≤ ln → ∃ l : List α, l.length = n ∧ (∀ i s, l[i]? = some s → ∃ cs', w.cells? base (x.add (i * d.sz)) d.sz = some cs' ∧ d.K w s cs') ∧ ∀ s ∈ l, Q s := by
      intro n
      induction n with
      | zero => intro _; exact ⟨[], rfl, by simp, by simp⟩
      | succ n ih =>
        intro hn
        obtain ⟨l, h1, h2, h3⟩ := ih (by omega)
        obtain ⟨s, cs', hs, hk, hq⟩ := each n (by omega)
        refine ⟨l ++ [s], by simp [h1], fun i t ht => ?_, fun t ht => ?_⟩
        · by_cases hi : i < l.length
          · rw [List.getElem?_append_left hi] at ht
            exact h2 i t ht
          · rw [List.getElem?_append_right (by omega)] at ht
            have hi' : i = n := by
              have := (List.getElem?_eq_some_iff.1 ht).1
              simp at this
              omega
            subst hi'
            rw [h1, Nat.sub_self] at ht
            simp at ht
            subst ht
            exact ⟨cs', hs, hk⟩
        · rcases List.mem_append.1 ht with h | h
          · exact h3 t h
          · obtain rfl := List.mem_singleton.1 h
            exact hq
    obtain ⟨l, h1, h2, h3⟩ := hsome ln (Nat.le_refl _)
    refine ⟨some x, ln, c, l, hcs, h1, hl, ⟨h1, by unfold maxLen at hm; omega, fun _ => ⟨x, rfl, fun j s hj => ?_⟩⟩, h3⟩
    obtain ⟨cs', h3, h4⟩ := h2 j s hj
    obtain ⟨_, hlen, hcell⟩ := World.cells?_some h3
    refine ⟨cs', d.K_len h4, h4, fun i u hu => ?_⟩
    have hi : i < d.sz := by have := (List.getElem?_eq_some_iff.1 hu).1; rw [d.K_len h4] at this; exact this
    have := hcell i hi
    rw [hu, Go.Deep.add_add] at this
    exact this
abbrev wf64 (s : Int) : Prop := (Lit.int .i64 s).wf = true
theorem int_open {fuel : Nat} {cs : List Value} {x : DataW H × List MemPlace} (h : DataW.trod enc Tryd.prog w base spare held fuel 3 cs = some x) : ∃ s : Int, (Kd.int .i64).K w s cs ∧ wf64 s := by
  obtain ⟨n0, e0, _, hw⟩ := DataW.trod_int Tryd.underlying3 h
  exact ⟨n0, e0, hw⟩
/-- A list of ints, from what is read. -/
theorem ints_open {a : Option Addr} {len cap : Nat} {d : DataW H} {ps : List MemPlace} (h : DataW.Trod enc Tryd.prog w base spare held 22 (.slice a len cap) d ps) :
    ∃ l : List Int, l.length = len ∧ len ≤ cap ∧ Kd.C (Kd.int .i64) w a len l ∧ ∀ s ∈ l, wf64 s := by
  obtain ⟨fuel, hf⟩ := h
  obtain ⟨a', len', cap', l, e, h1, h2, h3, h4⟩ := slice_open (Kd.int .i64) wf64 Tryd.underlying22 (by kernel_rfl) (fun h => int_open h) hf
  simp [Value.cells] at e
  obtain ⟨rfl, rfl, rfl⟩ := e
  exact ⟨l, h1, h2, h3, h4⟩
theorem count_open {fuel : Nat} {cs : List Value} {x : DataW H × List MemPlace} (h : DataW.trod enc Tryd.prog w base spare held fuel 44 cs = some x) : ∃ s : S44, k44.K w s cs ∧ (wf64 s.f0 ∧ wf64 s.f1) := by
  obtain ⟨xs, k, _, _, hlen, hxl, hf⟩ := DataW.trod_struct Tryd.underlying44 h
  have hc : Tryd.prog.cellsOf 44 = 2 := by kernel_rfl
  have hc3 : Tryd.prog.cellsOf 3 = 1 := by kernel_rfl
  rw [hc] at hlen
  have hxl' : xs.length = 2 := hxl
  clear hxl
  have e2 : ∀ {α : Type} (l : List α), l.length = 2 → ∃ a b, l = [a, b] := by
    intro α l hl
    rcases l with _ | ⟨a, _ | ⟨b, _ | ⟨c, l⟩⟩⟩ <;> simp at hl
    exact ⟨a, b, rfl⟩
  obtain ⟨v0, v1, rfl⟩ := e2 cs hlen
  obtain ⟨y0, y1, rfl⟩ := e2 xs hxl'
  have g0 := hf 0 _ rfl
  have g1 := hf 1 _ rfl
  simp [hc3] at g0 g1
  obtain ⟨s0, e0, _, q0⟩ := DataW.trod_int Tryd.underlying3 g0
  obtain ⟨s1, e1, _, q1⟩ := DataW.trod_int Tryd.underlying3 g1
  simp at e0 e1
  exact ⟨⟨s0, s1⟩, by rw [e0, e1]; exact k44_mk w ⟨s0, s1⟩, q0, q1⟩
/-- A histogram, from what is read. -/
theorem hist_open {r : Reach} {b0 : Nat} {v : Value} {d : DataW H} {p : List MemPlace} (hv : Value.okWide Tryd.prog w r b0 25 v) (h : DataW.Trod enc Tryd.prog w base spare held 25 v d p) :
    ∃ (bits : Int) (a : Option Addr) (l : List S44) (cap : Nat), v = .agg #[.int .i64 bits, .slice a l.length cap] ∧ l.length ≤ cap ∧ wf64 bits ∧ Kd.C k44 w a l.length l ∧ ∀ s ∈ l, wf64 s.f0 ∧ wf64 s.f1 := by
  obtain ⟨v0, v1, y0, y1, n, rfl, _, _, h0, h1⟩ := Joins.open_agg2 Tryd.underlying25 (by kernel_rfl) (by kernel_rfl) hv h
  obtain ⟨bits, e0, _, hw⟩ := DataW.trod_int Tryd.underlying3 h0
  obtain ⟨a, len, cap, l, e1, rfl, h2, h3, h4⟩ := slice_open k44 (fun s => wf64 s.f0 ∧ wf64 s.f1) Tryd.underlying23 (by kernel_rfl) (fun h => count_open h) h1
  simp at e0 e1
  subst e0 e1
  exact ⟨bits, a, l, cap, rfl, h2, hw, h3, h4⟩
end
theorem own : ownKnob Tryd.prog.godebug = none := by kernel_rfl
theorem laidOut : laidOutB Tryd.prog = true := by kernel_rfl
/-- The list of each row of this seat. -/
def laid : List (String × DataW Unit) := [("math/bits.deBruijn32tab", Rows.laid_math_bits_deBruijn32tab), ("math/bits.deBruijn64tab", Rows.laid_math_bits_deBruijn64tab), ("internal/strconv.uint64pow10", Rows.laid_internal_strconv_uint64pow10)]
theorem pow10_eq : (Rows.laid_internal_strconv_uint64pow10 : DataW Unit) = Lib.tabData .u64 Lib.pow10Tab := by kernel_rfl
theorem table {W : World} (h : laidMetH Tryd.prog laid W) : Lib.TabBelow Tryd.prog W.heap.size W "internal/strconv.uint64pow10" .u64 Lib.pow10Tab := by
  rw [MakeChecks.laidMetH_plain _ _ _ (by kernel_rfl)] at h
  have h3 := h.tail.tail
  rw [pow10_eq] at h3
  exact Lib.tabBelow_of_tabIs (Lib.tabIs_of_head (rest := []) (g := 0) (t := 94) (e := 78) (n := 20) (by kernel_rfl) (by kernel_rfl) Tryd.underlying94 Tryd.underlying78 (by kernel_rfl) (by kernel_rfl) h3)
end Go.Proofs.YtlkameeaaplonaaDoor.DRow

/- MeasureOfMatchesSpec: the row and its tied card. Condition: the row's own list of variables. -/
namespace Go.Proofs.YtlkameeaaplonaaDoor.measureOfMatchesSpec
open Go.ChangeShapes Go.WideShapes Go.ChangeAt Go.RowKit Go.Deep Go.Proofs.YtlkameeaaplonaaDoor.QMeasureOfMatchesSpec Go.Proofs.YtlkameeaaplonaaDoor.DRow
open Go.Proofs.YtlkameeaaplonaaDoorW.PrintWords
set_option linter.unusedVariables false
theorem door_met (os : Os) (args : Array Value) : laidMetH Tryd.prog Rows.measureOfMatchesSpecRow.laid ((World.doorLaid Tryd.prog 400 os).forCall (fun _ _ => 0) ⟨#[], args, []⟩).memory :=
  laidMetH_of_parts3 (fuel := 8) (laidMet_of_run' 8 (by kernel_rfl) (by kernel_rfl)) (by kernel_rfl) (by kernel_rfl)
set_option maxRecDepth 100000 in
theorem lifted (os : Os) (started : os.Started) (H : Type) (enc : TypeId × Value → H) :
    ReturnsInHanded {} Tryd.checked os 3 .any (fun w args => (Rows.measureOfMatchesSpecSpec.pre enc Tryd.prog Tryd.f3 [] false w args ∧ laidMetH Tryd.prog Rows.measureOfMatchesSpecRow.laid w) ∧ sizedMet enc Tryd.prog Tryd.f3 (OpenSpec.ofChange Rows.measureOfMatchesSpecSpec) false w args)
      (Rows.measureOfMatchesSpecSpec.post enc Tryd.prog Tryd.f3 false true false false) := by
  refine returnsInHanded_of_change_and (C := Tryd.checked) (X := fun w _ => laidMetH Tryd.prog Rows.measureOfMatchesSpecRow.laid w) (fun _ _ _ hh h => h.of_heap hh) own started (by kernel_rfl) Tryd.func3
    (ChangeSpec.witness_shaped (enc := enc) (C := Tryd.checked) (os := os) (X := fun w _ => laidMetH Tryd.prog Rows.measureOfMatchesSpecRow.laid w) false (World.doorLaid Tryd.prog 400 os) #[.int .i64 0, .slice none 0 0, .agg #[.int .i64 0, .slice none 0 0], .int .i64 0, .int .i64 0] 8 rfl (World.shaped_of_RefB (by kernel_rfl) (by kernel_rfl)) (by kernel_rfl) (by kernel_rfl) (by kernel_rfl) (door_met os _)) ?_
  intro W base args ds gs before hval0 hW _ _ hL _
  have htab := table (show laidMetH Tryd.prog laid W from hL)
  have hval : ∀ (j : Nat) t v, Tryd.f3.params[j]? = some t → args[j]? = some v → Value.okWide Tryd.prog W .any base t v := hval0
  have hW' := hW
  obtain ⟨p, q, hA0, hV, rfl, hfz, hnd⟩ := hW
  have hA : DataW.TrodAll enc Tryd.prog W 0 (fun _ => true) true Tryd.f3.params.toList args.toList ds p := hA0
  rw [Tryd.params3] at hA hval
  obtain ⟨v0, vs0, d0, ds0, p0, q0, hargs, rfl, rfl, h0, r0⟩ := trodAll_cons hA
  obtain ⟨v1, vs1, d1, ds1, p1, q1, rfl, rfl, rfl, h1, r1⟩ := trodAll_cons r0
  obtain ⟨v2, vs2, d2, ds2, p2, q2, rfl, rfl, rfl, h2, r2⟩ := trodAll_cons r1
  obtain ⟨v3, vs3, d3, ds3, p3, q3, rfl, rfl, rfl, h3, r3⟩ := trodAll_cons r2
  obtain ⟨v4, vs4, d4, ds4, p4, q4, rfl, rfl, rfl, h4, r4⟩ := trodAll_cons r3
  obtain ⟨rfl, rfl, rfl⟩ := trodAll_nil r4
  obtain rfl : args = #[v0, v1, v2, v3, v4] := by cases args; simp_all
  obtain ⟨rfl, rfl⟩ := trodVars_none hV
  obtain ⟨a0, rfl, rfl, rfl, w0⟩ := open_int Tryd.underlying3 (hval 0 3 v0 rfl rfl) h0
  obtain ⟨A1, len1, c1, rfl⟩ := okWide_slice Tryd.underlying22 (hval 1 22 v1 rfl rfl)
  obtain ⟨a3, rfl, rfl, rfl, w3⟩ := open_int Tryd.underlying3 (hval 3 3 v3 rfl rfl) h3
  obtain ⟨a4, rfl, rfl, rfl, w4⟩ := open_int Tryd.underlying3 (hval 4 3 v4 rfl rfl) h4
  have k1 := h1
  have lt1 : ∀ x ∈ p1, x.block < W.heap.size := by obtain ⟨m, hm⟩ := k1; exact DataW.trod_lt m _ _ _ hm
  obtain ⟨l1, rfl, hc1, hr1, hw1⟩ := ints_open h1
  have k2 := h2
  have lt2 : ∀ x ∈ p2, x.block < W.heap.size := by obtain ⟨m, hm⟩ := k2; exact DataW.trod_lt m _ _ _ hm
  obtain ⟨b2, A2, l2, c2, rfl, hc2, wb2, hr2, hw2⟩ := hist_open (hval 2 25 v2 rfl rfl) h2
  clear hA0 hval0
  refine (lawOf3 a0 b2 a3 a4 A1 A2 c1 c2 l1 l2 W hr1 hc1 hr2 hc2 (fun s hs => (bounds_i64 (hw2 s hs).1).2) htab).mono fun e W' ⟨he, bel⟩ => ?_
  subst he
  exact ⟨_, rfl, _, _, _, [], _, [], hW', trodAll_mk1 (shut_bool Tryd.underlying4 _), (trodAll_cons_mk (shut_int Tryd.underlying3 w0) (trodAll_cons_mk (Below.trod laidOut (by kernel_rfl) (of_decide_eq_true (by kernel_rfl)) k1 bel lt1) (trodAll_cons_mk (Below.trod laidOut (by kernel_rfl) (of_decide_eq_true (by kernel_rfl)) k2 bel lt2) (trodAll_cons_mk (shut_int Tryd.underlying3 w3) (trodAll_cons_mk (shut_int Tryd.underlying3 w4) trodAll_mk0))))), rfl, bel.frame _, fun h => by cases h⟩
theorem over : Rows.measureOfMatchesSpecRow.holds Tryd.pinned (OpenSpec.ofChange Rows.measureOfMatchesSpecSpec) :=
  OpenClaim.holds_of_wide 3 Tryd.f3 rfl rfl rfl rfl rfl rfl rfl ⟨rfl, rfl, rfl, rfl, rfl⟩ rfl rfl rfl rfl rfl (by kernel_rfl) Tryd.func3 (by kernel_rfl)
    (of_decide_eq_true (by kernel_rfl)) (by unfold Func.isWrapper; first | (rw [if_pos (by decide +kernel)]; kernel_rfl) | (rw [if_neg (by decide +kernel)]; exact ⟨rfl, rfl⟩))
    (fun os started H enc _ => lifted os started H enc)
theorem plain (f : FuncId) (fn : Func) (hf : Tryd.pinned.checked.prog.funcNamed "dynamometer/dynamometerlaw9.MeasureOfMatchesSpec" = some f) (hfn : Tryd.pinned.checked.prog.funcs[f]? = some fn) :
    false = Tryd.pinned.checked.prog.looks [] ∧ ∀ (j : Nat) t, fn.params[j]? = some t → Tryd.pinned.checked.prog.wantsStandIn t = false := by
  obtain rfl : f = 3 := Option.some.inj ((show Tryd.prog.funcNamed "dynamometer/dynamometerlaw9.MeasureOfMatchesSpec" = some 3 by kernel_rfl).symm.trans hf) |>.symm
  obtain rfl : fn = Tryd.f3 := (Option.some.inj (Tryd.func3.symm.trans hfn)).symm
  refine ⟨by kernel_rfl, fun j t ht => ?_⟩
  rw [Tryd.params3] at ht
  have hm : t ∈ [3, 22, 25, 3, 3] := by simpa using Array.mem_of_getElem? ht
  have hall : ([3, 22, 25, 3, 3].all fun u => !Tryd.prog.wantsStandIn u) = true := by kernel_rfl
  exact (show Tryd.prog.wantsStandIn t = false by simpa using List.all_eq_true.1 hall t hm)
end Go.Proofs.YtlkameeaaplonaaDoor.measureOfMatchesSpec
namespace Go.Proofs.YtlkameeaaplonaaDoor
/-- The card. -/
theorem measureOfMatchesSpec_holds : Rows.MeasureOfMatchesSpecCardSaid :=
  Claim7.holds_tied_plain_at .later [] _ _ _ _ measureOfMatchesSpec.over (fun _ h => by cases h) (by kernel_rfl) (fun _ h => by cases h) measureOfMatchesSpec_row_tie rfl ⟨rfl, rfl⟩ (by kernel_rfl) rfl measureOfMatchesSpec.plain (by kernel_rfl)
#print axioms measureOfMatchesSpec_holds
end Go.Proofs.YtlkameeaaplonaaDoor
