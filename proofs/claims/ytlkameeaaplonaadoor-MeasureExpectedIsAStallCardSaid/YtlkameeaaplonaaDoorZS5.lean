/- The texts of the claim, part 5: each says in its own first line what is proved and its conditions. -/
import Derived.Test.YtlkameeaaplonaaDoorQMeasureExpectedIsAStallx0
import Derived.Test.YtlkameeaaplonaaDoorQMeasureExpectedIsAStallx1
import Derived.Test.YtlkameeaaplonaaDoorQMeasureExpectedIsAStallx2
import Derived.Test.YtlkameeaaplonaaDoorQMeasureExpectedIsAStallx3
import Derived.Test.YtlkameeaaplonaaDoorQMeasureExpectedIsAStallx4
import Derived.Test.YtlkameeaaplonaaDoorTie
import Derived.Test.YtlkameeaaplonaaDoorCards
import Derived.Lib.LaidTab
import Derived.Lib.SmallJoins
import Derived.Lib.ItoaNum
import Derived.Lib.AppendIntMem
import Derived.Stop.LaidErr
import Derived.Deep.Slices
import Derived.WalkKit
import Derived.ProofKit
import Derived.OpenShut
import Derived.ShutString
import Derived.ChangeOld
import Derived.Below
import Derived.SizedLaws
import Derived.ChangeSame
import Derived.SevenTiedAt
import Derived.Carry
import Derived.LaidMore
import Derived.LaidLaws
import Derived.LaidHandle
import Derived.Stop.Joined
import Derived.Test.YtlkameeaaplonaaDoorZS1
import Derived.Test.YtlkameeaaplonaaDoorZS2
import Derived.Test.YtlkameeaaplonaaDoorZS3
import Derived.Test.YtlkameeaaplonaaDoorZS4
/- The fault of values, by the reference. Condition: none. -/
namespace Go.Proofs.YtlkameeaaplonaaDoor
open Go.RowKit Go.Proofs.YtlkameeaaplonaaDoor.QMeasureExpectedIsAStall Go.Proofs.YtlkameeaaplonaaDoorW.PrintWords Go.Proofs.YtlkameeaaplonaaDoorW.PrintLast Go.Proofs.YtlkameeaaplonaaDoorW.PrintMore
set_option linter.unusedVariables false
set_option linter.unusedSimpArgs false
theorem rform2 (x : Int) : dynamometerref9_fineBits.f x = some (decide (2 ≤ x ∧ x ≤ 8)) := by
  unfold dynamometerref9_fineBits.f
  by_cases h : 2 ≤ x
  · rw [if_pos h]; simp [h]
  · rw [if_neg h]; simp [h]
theorem vf_loop (xs : List Int) (hl : xs.length ≤ 20000) : ∀ d i : Nat, i + d = xs.length → Ev (fun k => dynamometerref9_valuesFault.l0 k xs (i : Int)) (if (xs.drop i).any bad then 9 else 0) := by
  intro d
  induction d with
  | zero =>
    intro i hi
    rw [List.drop_of_length_le (by omega), List.any_nil, if_neg (by decide)]
    refine Ev.step (f := fun _ => some 0) (fun k => ?_) (Ev.now _)
    rw [dynamometerref9_valuesFault.l0, if_neg (by omega)]
  | succ d ih =>
    intro i hi
    have hil : i < xs.length := by omega
    have h := ih (i + 1) (by omega)
    have hr := rdI hil
    rw [List.drop_eq_getElem_cons hil, List.any_cons, ← hr]
    generalize rd xs (i : Int) = x at hr ⊢
    have hx : rd xs (i : Int) = x := by rw [rdI hil, ← hr]
    by_cases h1 : x < 0
    · have hb : bad x = true := by unfold bad; simp; omega
      rw [hb, Bool.true_or, if_pos rfl]
      refine Ev.step (f := fun _ => some 9) (fun k => ?_) (Ev.now _)
      rw [dynamometerref9_valuesFault.l0, if_pos (by omega), if_pos (by omega), hx, if_pos h1]
    · by_cases h2 : x > 1125899906842623
      · have hb : bad x = true := by unfold bad; simp; omega
        rw [hb, Bool.true_or, if_pos rfl]
        refine Ev.step (f := fun _ => some 9) (fun k => ?_) (Ev.now _)
        rw [dynamometerref9_valuesFault.l0, if_pos (by omega), if_pos (by omega), hx, if_neg h1, if_pos h2]
      · have hb : bad x = false := (bad_iff x).2 ⟨by omega, by omega⟩
        rw [hb, Bool.false_or]
        refine Ev.step (fun k => ?_) h
        rw [dynamometerref9_valuesFault.l0, if_pos (by omega), if_pos (by omega), hx, if_neg h1, if_neg h2, add1N i (by omega)]
/-- The fault of values, by the reference. -/
theorem vf_ev (bits : Int) (xs : List Int) : Ev (fun k => dynamometerref9_valuesFault.f k bits xs) (fault bits xs) := by
  unfold fault
  by_cases h : 2 ≤ bits ∧ bits ≤ 8
  · rw [if_neg (by omega)]
    by_cases h1 : xs.length > 20000
    · rw [if_pos h1]
      refine Ev.congr (f := fun _ => some 3) (fun k => ?_) (Ev.now _)
      unfold dynamometerref9_valuesFault.f
      rw [rform2, decide_eq_true h, Option.bind_some, if_pos rfl, if_pos (by omega)]
    · rw [if_neg h1]
      refine Ev.congr (fun k => ?_) (vf_loop xs (by omega) xs.length 0 (by omega))
      unfold dynamometerref9_valuesFault.f
      rw [rform2, decide_eq_true h, Option.bind_some, if_pos rfl, if_neg (by omega)]
      rfl
  · rw [if_pos (by omega)]
    refine Ev.congr (f := fun _ => some 9) (fun k => ?_) (Ev.now _)
    unfold dynamometerref9_valuesFault.f
    rw [rform2, decide_eq_false h]
    rfl
end Go.Proofs.YtlkameeaaplonaaDoor

/- The bucket of a value, by the reference. -/
namespace Go.Proofs.YtlkameeaaplonaaDoor.QMeasureExpectedIsAStall
open Go.RowKit Go.Proofs.YtlkameeaaplonaaDoorW.PrintWords Go.Proofs.YtlkameeaaplonaaDoorW.PrintLast Go.Proofs.YtlkameeaaplonaaDoorW.PrintMore
set_option linter.unusedVariables false
set_option linter.unusedSimpArgs false
section
variable {b p J : Nat} (P : Par b p J)
include P
theorem place_end (k : Nat) (v j s : Nat) (hs : s = 2 ^ (j + 1)) (h1 : p * s ≤ v) (h2 : v < 2 * p * s) (hv : v < 1125899906842624) (hj : j < 50) :
    dynamometerref9_place.l0 (k + 1) (b : Int) (v : Int) (s : Int) ((p * s : Nat) : Int) (((j + 2) * p : Nat) : Int) (p : Int) = some (((j + 1) * p + v / s : Nat) : Int) := by
  have hp := P.p128
  have hp2 := P.p2
  have hs0 : 0 < s := by rw [hs]; exact Nat.pow_pos (by decide)
  have hm2 : v / s < 2 * p := (Nat.div_lt_iff_lt_mul hs0).2 h2
  have hm1 : p ≤ v / s := (Nat.le_div_iff_mul_le hs0).2 h1
  have hjp : (j + 2) * p ≤ 6656 := Nat.le_trans (Nat.mul_le_mul (show j + 2 ≤ 52 by omega) hp) (by decide)
  have ed : (v - p * s) / s = v / s - p := by
    rw [Nat.mul_comm p s, Nat.sub_mul_div]
  have e2 : 2 * p * s = p * s + p * s := by rw [Nat.mul_assoc]; omega
  have e3 : (j + 2) * p = j * p + p + p := by rw [Nat.succ_mul, Nat.succ_mul]
  have e4 : (j + 1) * p = j * p + p := Nat.succ_mul j p
  rw [dynamometerref9_place.l0, mulN p s (by omega), addN (p * s) (p * s) (by omega), if_neg (by omega), if_neg (by omega), subN v (p * s) h1 (by omega)]
  have et : Int.tdiv ((v - p * s : Nat) : Int) (s : Int) = ((v / s - p : Nat) : Int) := by
    rw [← ed]
    rw [Int.tdiv_eq_ediv_of_nonneg (by omega)]
    exact (Int.natCast_ediv _ _).symm
  rw [et]
  generalize v / s = m at hm1 hm2
  rw [w64 (n := ((m - p : Nat) : Int)) (by omega) (by omega), addN _ _ (by omega)]
  congr 2
  omega
theorem place_loop (v j : Nat) (h1 : p * 2 ^ (j + 1) ≤ v) (h2 : v < 2 * p * 2 ^ (j + 1)) (hv : v < 1125899906842624) (hj : j < 50) : ∀ (d i k : Nat), i + d = j →
    dynamometerref9_place.l0 (d + k + 1) (b : Int) (v : Int) ((2 ^ (i + 1) : Nat) : Int) ((p * 2 ^ (i + 1) : Nat) : Int) (((i + 2) * p : Nat) : Int) (p : Int) = some (((j + 1) * p + v / 2 ^ (j + 1) : Nat) : Int)
  | 0, i, k, e => by
    have e' : i = j := by omega
    subst e'
    rw [Nat.zero_add]
    exact place_end P k v i _ rfl h1 h2 hv hj
  | d + 1, i, k, e => by
    have hp := P.p128
    have hp2 := P.p2
    have ih := place_loop v j h1 h2 hv hj d (i + 1) k (by omega)
    have hle : p * 2 ^ (i + 2) ≤ v := Nat.le_trans (Nat.mul_le_mul_left p (Nat.pow_le_pow_right (by decide) (by omega))) h1
    have es : 2 ^ (i + 2) = 2 * 2 ^ (i + 1) := by rw [Nat.pow_succ 2 (i + 1)]; omega
    have es2 : 2 ^ (i + 1 + 1) = 2 * 2 ^ (i + 1) := es
    have hip : (i + 2) * p ≤ 6656 := Nat.le_trans (Nat.mul_le_mul (show i + 2 ≤ 52 by omega) hp) (by decide)
    have e3 : (i + 3) * p = (i + 2) * p + p := Nat.succ_mul _ _
    have e3' : (i + 1 + 2) * p = (i + 2) * p + p := e3
    rw [es2, e3'] at ih
    rw [es] at hle
    generalize hsg : 2 ^ (i + 1) = s at hle ih ⊢
    have hs1 : s ≤ p * s := Nat.le_mul_of_pos_left s (by omega)
    have e2 : p * (2 * s) = p * s + p * s := by rw [Nat.mul_left_comm]; omega
    rw [e2] at hle ih
    rw [show d + 1 + k + 1 = (d + k + 1) + 1 from by omega, dynamometerref9_place.l0, mulN p s (by omega), addN (p * s) (p * s) (by omega), if_pos (by omega), bm1 P, if_pos (by omega), dblN s (by omega), addN _ _ (by omega), sp P]
    exact ih
theorem place_lo (v k : Nat) (hv : v < 2 * p) : dynamometerref9_place.f (k + 1) (b : Int) (v : Int) = some (v : Int) := by
  have hp := P.p128
  unfold dynamometerref9_place.f
  rw [if_pos (by omega), sb P, dynamometerref9_place.l0]
  have e1 : wrap64 (((2 * p : Nat) : Int) * 1) = ((2 * p : Nat) : Int) := by rw [Int.mul_one]; exact w64 (by omega) (by omega)
  have e2 : wrap64 (0 + ((2 * p : Nat) : Int)) = ((2 * p : Nat) : Int) := by rw [Int.zero_add]; exact w64 (by omega) (by omega)
  have e3 : wrap64 ((v : Int) - 0) = (v : Int) := by rw [Int.sub_zero]; exact w64 (by omega) (by omega)
  have e4 : wrap64 (v : Int) = (v : Int) := w64 (by omega) (by omega)
  rw [e1, e2, if_neg (by omega), if_neg (by decide), e3, Int.tdiv_one, e4, Int.zero_add, e4]
theorem place_hi (v j k : Nat) (h1 : p * 2 ^ (j + 1) ≤ v) (h2 : v < 2 * p * 2 ^ (j + 1)) (hv : v < 1125899906842624) :
    dynamometerref9_place.f (j + k + 2) (b : Int) (v : Int) = some (((j + 1) * p + v / 2 ^ (j + 1) : Nat) : Int) := by
  obtain ⟨hj, hm1, hm2⟩ := dbl_facts P h1 h2 hv
  have hp := P.p128
  have hpos : 2 * p ≤ v := by
    have : p * 2 ≤ p * 2 ^ (j + 1) := Nat.mul_le_mul_left p (by rw [Nat.pow_succ]; have := Nat.pow_pos (n := j) (show 0 < 2 by decide); omega)
    omega
  have h := place_loop P v j h1 h2 hv hj j 0 k (by omega)
  unfold dynamometerref9_place.f
  have e1 : wrap64 (((2 * p : Nat) : Int) * 1) = ((2 * p : Nat) : Int) := by rw [Int.mul_one]; exact w64 (by omega) (by omega)
  have e2 : wrap64 (0 + ((2 * p : Nat) : Int)) = ((2 * p : Nat) : Int) := by rw [Int.zero_add]; exact w64 (by omega) (by omega)
  rw [if_pos (by omega), sb P, dynamometerref9_place.l0, e1, e2, if_pos (by omega), bm1 P, if_pos (by omega), sp P]
  have e5 : wrap64 (2 * 1) = ((2 ^ (0 + 1) : Nat) : Int) := (w64 (n := 2 * 1) (by omega) (by omega)).trans (by decide)
  have e6 : ((2 * p : Nat) : Int) = ((p * 2 ^ (0 + 1) : Nat) : Int) := by rw [show p * 2 ^ (0 + 1) = 2 * p from by omega]
  have e7 : ((2 * p : Nat) : Int) = (((0 + 2) * p : Nat) : Int) := by rw [Nat.zero_add]
  rw [e5]
  have h' := h
  rw [← e6, ← e7] at h'
  exact h'
end
end Go.Proofs.YtlkameeaaplonaaDoor.QMeasureExpectedIsAStall

/- The bucket of a value, by the reference. Condition: the value is good. -/
namespace Go.Proofs.YtlkameeaaplonaaDoor
open Go.RowKit Go.Proofs.YtlkameeaaplonaaDoor.QMeasureExpectedIsAStall Go.Proofs.YtlkameeaaplonaaDoorW.PrintWords Go.Proofs.YtlkameeaaplonaaDoorW.PrintLast Go.Proofs.YtlkameeaaplonaaDoorW.PrintMore
set_option linter.unusedVariables false
set_option linter.unusedSimpArgs false
theorem place_ev {b : Nat} (h2 : 2 ≤ b) (h8 : b ≤ 8) {v : Int} (hv : okV v) : Ev (fun k => dynamometerref9_place.f k (b : Int) v) (bkt b v) := by
  have P := par_of b h2 h8
  obtain ⟨m, rfl⟩ := Int.eq_ofNat_of_zero_le hv.1
  have hm : m < 1125899906842624 := by omega
  rcases value_cases P m hm with h0 | ⟨j, h1, h3, hj⟩
  · refine ⟨1, fun k hk => ?_⟩
    obtain ⟨k, rfl⟩ : ∃ n, k = n + 1 := ⟨k - 1, by omega⟩
    rw [bkt_lo P m h0]
    exact place_lo P m k h0
  · refine ⟨j + 2, fun k hk => ?_⟩
    obtain ⟨n, rfl⟩ : ∃ n, k = j + n + 2 := ⟨k - (j + 2), by omega⟩
    rw [bkt_hi P m j h1 h3 hm]
    exact place_hi P m j n h1 h3 hm
end Go.Proofs.YtlkameeaaplonaaDoor

/- The reference's Of. Condition: none. -/
namespace Go.Proofs.YtlkameeaaplonaaDoor
open Go.RowKit Go.Proofs.YtlkameeaaplonaaDoor.QMeasureExpectedIsAStall Go.Proofs.YtlkameeaaplonaaDoorW.PrintWords Go.Proofs.YtlkameeaaplonaaDoorW.PrintLast Go.Proofs.YtlkameeaaplonaaDoorW.PrintMore
set_option linter.unusedVariables false
set_option linter.unusedSimpArgs false
section
variable {b : Nat} (h2 : 2 ≤ b) (h8 : b ≤ 8)
include h2 h8
theorem of_loop (xs : List Int) (hx : Fine xs) : ∀ (d i : Nat) (l : List S44), i + d = xs.length → IsH (cntF b (xs.take i)) i l → ∃ r, Ev (fun k => dynamometerref9_of.l0 k (b : Int) xs (i : Int) (b : Int) l) ((b : Int), r) ∧ IsH (cntF b xs) xs.length r := by
  have hn := hx.1
  intro d
  induction d with
  | zero =>
    intro i l hi hl
    have e : i = xs.length := by omega
    subst e
    rw [List.take_length] at hl
    refine ⟨l, Ev.step (f := fun _ => some ((b : Int), l)) (fun k => ?_) (Ev.now _), hl⟩
    rw [dynamometerref9_of.l0, if_neg (by omega)]
  | succ d ih =>
    intro i l hi hl
    have hil : i < xs.length := by omega
    have hin : rd xs (i : Int) ∈ xs := by rw [rdI hil]; exact List.getElem_mem _
    have hv := hx.2 _ hin
    have htk : xs.take (i + 1) = xs.take i ++ [rd xs (i : Int)] := by rw [List.take_succ_eq_append_getElem hil, rdI hil]
    have hp := place_ev h2 h8 hv
    have hbd := isH_bound hl (B := 20000) (fun y => by have := cntF_le b (xs.take i) y; rw [List.length_take] at this; omega)
    have hm := more_ev (bkt b (rd xs (i : Int))) 1 (b : Int) l (by have := hl.len; omega) (fun s hs' => by have := hbd s hs'; omega)
    have hl' := isH_more hl (cntF_nonneg b _) (bkt b (rd xs (i : Int))) 1 (by decide)
    obtain ⟨r, hr, hr'⟩ := ih (i + 1) _ (by omega) ⟨hl'.hist.congr (fun y => by rw [htk, cntF_snoc]), hl'.len⟩
    obtain ⟨K1, e1⟩ := hp
    obtain ⟨K2, e2⟩ := hm
    obtain ⟨K3, e3⟩ := hr
    refine ⟨r, ⟨K1 + K2 + K3 + 1, fun k hk => ?_⟩, hr'⟩
    obtain ⟨k, rfl⟩ : ∃ n, k = n + 1 := ⟨k - 1, by omega⟩
    have f1 := e1 k (by omega)
    have f2 := e2 k (by omega)
    have f3 := e3 k (by omega)
    simp only at f1 f2 f3 ⊢
    rw [dynamometerref9_of.l0, if_pos (by omega), if_pos (by omega), f1, Option.bind_some, f2, Option.bind_some, add1N i (by omega)]
    exact f3
/-- The reference's Of, of good values. -/
theorem Of_fine (xs : List Int) (hx : Fine xs) : ∃ r, Ev (fun k => dynamometerref9_Of.f k (b : Int) xs) ((b : Int), r, 0) ∧ IsH (cntF b xs) xs.length r := by
  obtain ⟨r, hr, hr'⟩ := of_loop h2 h8 xs hx xs.length 0 [] (by omega) ⟨(isH_nil 0).hist.congr (fun y => by simp [cntF]), by simp⟩
  have hv := vf_ev (b : Int) xs
  rw [fault_fine h2 h8 hx] at hv
  obtain ⟨K1, e1⟩ := hv
  obtain ⟨K2, e2⟩ := hr
  refine ⟨r, ⟨K1 + K2, fun k hk => ?_⟩, hr'⟩
  have f1 := e1 k (by omega)
  have f2 := e2 k (by omega)
  simp only at f1 f2 ⊢
  unfold dynamometerref9_Of.f dynamometerref9_of.f
  rw [f1, Option.bind_some, if_pos rfl, show (0 : Int) = ((0 : Nat) : Int) from rfl, f2]
  rfl
end
/-- The reference's Of, with a fault. -/
theorem Of_fault (bits : Int) (xs : List Int) (h : fault bits xs ≠ 0) : Ev (fun k => dynamometerref9_Of.f k bits xs) (0, [], fault bits xs) := by
  obtain ⟨K1, e1⟩ := vf_ev bits xs
  refine ⟨K1, fun k hk => ?_⟩
  have f1 := e1 k (by omega)
  simp only at f1 ⊢
  unfold dynamometerref9_Of.f
  rw [f1, Option.bind_some, if_neg h]
end Go.Proofs.YtlkameeaaplonaaDoor

/- Of, by measure and by its reference: the same answer for all values. -/
namespace Go.Proofs.YtlkameeaaplonaaDoor
open Go.Shelf Go.RowKit Go.Maps Go.Proofs.YtlkameeaaplonaaDoor.QMeasureExpectedIsAStall
open Go.Proofs.YtlkameeaaplonaaDoorW.PrintWords Go.Proofs.YtlkameeaaplonaaDoorW.PrintLast Go.Proofs.YtlkameeaaplonaaDoorW.PrintMore
set_option linter.unusedVariables false
theorem Of_both (bits : Int) (xs : List Int) : ∃ r : Res, Tell r ∧ Ev (fun k => dynamometerref9_Of.f k bits xs) r ∧
    (∀ (A : Option Addr) (c : Nat) (w : World), Kd.C (Kd.int .i64) w A xs.length xs → Ans 12 #[.int .i64 bits, .slice A xs.length c] w r) ∧
    (r = (0, [], fault bits xs) ∧ fault bits xs ≠ 0 ∨ ∃ b : Nat, bits = (b : Int) ∧ 2 ≤ b ∧ b ≤ 8 ∧ Fine xs ∧ ∃ l, r = ((b : Int), l, 0) ∧ IsH (cntF b xs) xs.length l) := by
  by_cases h : fault bits xs = 0
  · obtain ⟨b, rfl, h2, h8, hx⟩ := fault_zero h
    obtain ⟨l, hev, hH⟩ := Of_fine h2 h8 xs hx
    have hff := fine_facts h2 h8 hx hH.hist
    refine ⟨((b : Int), l, 0), ⟨⟨by show _ ≤ (b : Int); omega, by show (b : Int) ≤ _; omega⟩, ⟨show (-9223372036854775808 : Int) ≤ 0 by decide, show (0 : Int) ≤ 9223372036854775807 by decide⟩, by have := hH.len; have := hx.1; show l.length ≤ _; omega, fun s hs' => ?_⟩, hev, fun A c w hC => ?_, .inr ⟨b, rfl, h2, h8, hx, l, rfl, hH⟩⟩
    · have := hff s hs'
      exact ⟨⟨by omega, by omega⟩, by omega, by omega⟩
    · refine (Of11 (b : Int) 1 (bkt b) A xs.length c xs w hC h (fun x hx' => (bkt_ok h2 h8 (hx.2 x hx')).1 0) (fun x hx' => ?_)).mono ?_
      · have := (bkt_ok h2 h8 (hx.2 x hx')).2.2
        exact WalkArith.wf_i64 (by omega)
      · rintro e w' ⟨v, r, rfl, hV, hB, hT⟩
        obtain rfl := hist_unique (tally_hist hT) hH.hist
        obtain ⟨P, d, rfl, hd, hC'⟩ := ans_of_V hV
        exact ⟨P, d, rfl, hd, hC', hB⟩
  · refine ⟨(0, [], fault bits xs), tell_fault (fault_range bits xs), Of_fault bits xs h, fun A c w hC => ?_, .inl ⟨rfl, h⟩⟩
    refine (Of11f bits A xs.length c xs w hC h).mono ?_
    rintro e w' ⟨rfl, hB⟩
    exact ⟨none, 0, rfl, Nat.le_refl _, C_nil _, hB⟩
end Go.Proofs.YtlkameeaaplonaaDoor

/- Rows of ints of the call's own. Condition: none. -/
namespace Go.Proofs.YtlkameeaaplonaaDoor
open Go.Shelf Go.RowKit Go.Maps Go.Proofs.YtlkameeaaplonaaDoor.QMeasureExpectedIsAStall
open Go.Proofs.YtlkameeaaplonaaDoorW.PrintWords Go.Proofs.YtlkameeaaplonaaDoorW.PrintLast Go.Proofs.YtlkameeaaplonaaDoorW.PrintMore
set_option linter.unusedVariables false
theorem C_reads {w : World} {A : Option Addr} {xs : List Int} (h : Kd.C (Kd.int .i64) w A xs.length xs) : ReadsInt w .i64 A xs.length xs := by
  refine ⟨rfl, h.2.1, fun h0 => ?_⟩
  obtain ⟨ad, rfl, _⟩ := h.2.2 h0
  refine ⟨ad, rfl, fun j hj => ?_⟩
  obtain ⟨ad2, e, hc⟩ := C_cell h j hj
  obtain rfl : ad = ad2 := by injection e
  exact hc
theorem info3 : (Tryd.prog.info? 3).map (fun i => (i.zero, i.size, i.bytes)) = some (some (.int .i64 0), 1, 8) := by kernel_rfl
theorem reads_C {w : World} {A : Option Addr} {n : Nat} {xs : List Int} (h : ReadsInt w .i64 A n xs) : Kd.C (Kd.int .i64) w A n xs := by
  refine ⟨h.1, h.2.1, fun h0 => ?_⟩
  obtain ⟨ad, rfl, hc⟩ := h.2.2 h0
  refine ⟨ad, rfl, fun j p hp => ⟨[.int .i64 p], rfl, rfl, fun i u hu => ?_⟩⟩
  match i, hu with
  | 0, hu =>
    simp at hu
    subst hu
    have hj := (List.getElem?_eq_some_iff.1 hp).1
    have := hc j (by rw [← h.1]; exact hj)
    rw [List.getD_eq_getElem?_getD, hp] at this
    simpa [Kd.int, Kd.scalar] using this
theorem own_C {w : World} {base n : Nat} {A : Option Addr} {c : Nat} {xs : List Int} (h : w.ownsRow base 3 1 (.slice A n c) n (nums .i64 xs)) : Kd.C (Kd.int .i64) w A n xs := by
  obtain ⟨A', c', e, hr⟩ := own_reads h
  injection e with e1 e2 e3
  subst e1
  exact reads_C hr
theorem own_cap {w : World} {base n : Nat} {A : Option Addr} {c : Nat} {xs : List Value} (h : w.ownsRow base 3 1 (.slice A n c) n xs) : n ≤ c := by
  rcases h.2 with ⟨e, h0⟩ | ⟨g, cap, cur, e, h1, h2, h3, h4, h5⟩
  · omega
  · injection e with e1 e2 e3
    subst e3
    omega
theorem lit_own (w : World) (x : Int) : (w.alloc (.cells #[.int .i64 x] 3)).ownsRow w.heap.size 3 1 (.slice (some ⟨w.heap.size, 0, none⟩) 1 1) 1 (nums .i64 [x]) :=
  World.ownsRow_lit (base := w.heap.size) (e := 3) (size := 1) w #[.int .i64 x] 1 (Nat.le_refl _) (by decide) rfl
theorem lit_C (w : World) (x : Int) : Kd.C (Kd.int .i64) (w.alloc (.cells #[.int .i64 x] 3)) (some ⟨w.heap.size, 0, none⟩) 1 [x] := own_C (lit_own w x)
end Go.Proofs.YtlkameeaaplonaaDoor

/- counts answers true. Condition: none. -/
namespace Go.Proofs.YtlkameeaaplonaaDoor
open Go.Shelf Go.RowKit Go.Maps Go.Proofs.YtlkameeaaplonaaDoor.QMeasureExpectedIsAStall
open Go.Proofs.YtlkameeaaplonaaDoorW.PrintWords
theorem bucket3 : ∀ x ∈ ([5, 1, 4] : List Int), measure_bucket.f 3 2 x = some (bk3 x) := by
  intro x hx
  simp only [List.mem_cons, List.not_mem_nil, or_false] at hx
  rcases hx with rfl | rfl | rfl <;> kernel_rfl
set_option maxRecDepth 100000 in
set_option maxHeartbeats 4000000 in
theorem counts10 (w : World) : Calls Tryd.prog 16 #[] w fun e w' => e = .returned (.bool true) ∧ Below w.heap.size w w' := by
  have hC0 : Kd.C (Kd.int .i64) (w.alloc (.cells #[.int .i64 5, .int .i64 1, .int .i64 4] 3)) (some ⟨w.heap.size, 0, none⟩) 3 [5, 1, 4] := by
    have h := World.ownsRow_lit (base := 0) (e := 3) (size := 1) w #[.int .i64 5, .int .i64 1, .int .i64 4] 3 (Nat.zero_le _) (by decide) rfl
    exact (C_own (xs := [5, 1, 4]) (B := 0) ⟨h, by decide⟩).2.2
  go_enter Tryd.func16, Tryd.ntmps16
  go_wp2_with (first
    | (go_at_call 12; refine (Of11 2 3 bk3 (some ⟨w.heap.size, 0, none⟩) 3 3 [5, 1, 4] _ hC0 (by decide) bucket3 (by decide)).mono ?_; rintro e w4 ⟨v4, r4, rfl, hV4, hB4, ht4⟩; obtain rfl := tally_unique ht4 tally3; obtain ⟨A4, c4, rfl⟩ := Kd.V_slice hV4; obtain ⟨ad, rfl, q0, q1⟩ := at_T44 (Kd.C_below (Kd.V_reads' hV4).2.2 ((Below.refl _ w4).alloc (Nat.le_refl _) (.cells #[.int .i64 2, .slice A4 2 c4] 25))) 1 (by decide) (by decide); have q0' : (w4.alloc (.cells #[.int .i64 2, .slice (some ad) 2 c4] 25)).cell? ⟨ad.block, ad.off + 2, none⟩ = some (.int .i64 4) := q0; have q1' : (w4.alloc (.cells #[.int .i64 2, .slice (some ad) 2 c4] 25)).cell? ⟨ad.block, ad.off + 2 + 1, none⟩ = some (.int .i64 2) := q1)
    | go_in)
  go_ret
  refine ⟨rfl, ?_⟩
  have hB0 : Below w.heap.size w (w.alloc (.cells #[.int .i64 5, .int .i64 1, .int .i64 4] 3)) := (Below.refl _ _).alloc (Nat.le_refl _) _
  have hB1 := hB0.trans (Below.mono hB4 (by simp))
  exact hB1.alloc hB1.size _
end Go.Proofs.YtlkameeaaplonaaDoor

/- The walk of the law MeasureExpectedIsAStall. Condition: the table of powers of ten lies below. -/
namespace Go.Proofs.YtlkameeaaplonaaDoor
open Go.Shelf Go.RowKit Go.Maps Go.Proofs.YtlkameeaaplonaaDoor.QMeasureExpectedIsAStall
open Go.Proofs.YtlkameeaaplonaaDoorW.PrintWords Go.Proofs.YtlkameeaaplonaaDoorW.PrintLast Go.Proofs.YtlkameeaaplonaaDoorW.PrintMore
set_option linter.unusedVariables false
set_option maxRecDepth 100000 in
set_option maxHeartbeats 8000000 in
theorem law5e (bits stall p F : Int) (w : World) (hF : efault bits [stall] p = F) (h0 : (F != 0) = true) :
    Calls Tryd.prog 5 #[.int .i64 bits, .int .i64 stall, .int .i64 p] w fun e w' => e = .returned (.bool true) ∧ Below w.heap.size w w' := by
  have hC0 := lit_C w stall
  have hne : efault bits [stall] p ≠ 0 := by rw [hF]; simpa using h0
  have a1 := exp_fault bits p [stall] hne (some ⟨w.heap.size, 0, none⟩) 1 _ hC0
  rw [hF] at a1
  have hB0 : Below w.heap.size w (w.alloc (.cells #[.int .i64 stall] 3)) := (Below.refl _ w).alloc (Nat.le_refl _) _
  clear hF hne hC0
  go_enter Tryd.func5, Tryd.ntmps5
  go_wp2_with (first
    | (go_at_call 16; refine (counts10 _).mono ?_; rintro e w2 ⟨rfl, hB2⟩)
    | (go_at_call 18; refine a1.mono ?_; clear a1; rintro e w1 ⟨P1, d1, rfl, hd1, hC1, hBt⟩; have hB1 := (hB0.trans (Below.mono hBt hB0.size)).alloc (hB0.trans (Below.mono hBt hB0.size)).size (.cells #[.int .i64 0, .slice P1 0 d1] 25))
    | go_in)
  go_ret
  exact ⟨rfl, hB1.trans (Below.mono hB2 hB1.size)⟩
set_option maxRecDepth 100000 in
set_option maxHeartbeats 8000000 in
theorem law5b (b : Nat) (stall p : Int) (w : World) (h2 : 2 ≤ b) (h8 : b ≤ 8) (hx : Fine [stall]) (hp1 : 1 ≤ p) (hp2 : p ≤ 1125899906842623) (hn : (sls p [stall]).length ≤ 1000000) (hbig : decide (2000 < stall / p) = true) :
    Calls Tryd.prog 5 #[.int .i64 (b : Int), .int .i64 stall, .int .i64 p] w fun e w' => e = .returned (.bool true) ∧ Below w.heap.size w w' := by
  have hC0 := lit_C w stall
  have hv := hx.2 stall (by simp)
  have hv0 := hv.1
  have hv1 := hv.2
  have a1 := exp18g b p (some ⟨w.heap.size, 0, none⟩) 1 [stall] _ h2 h8 hx hp1 hp2 hn hC0
  have hB0 : Below w.heap.size w (w.alloc (.cells #[.int .i64 stall] 3)) := (Below.refl _ w).alloc (Nat.le_refl _) _
  clear hC0 hn hx
  go_enter Tryd.func5, Tryd.ntmps5
  go_wp2_with (first
    | (go_at_call 16; refine (counts10 _).mono ?_; rintro e w2 ⟨rfl, hB2⟩)
    | (go_at_call 18; refine a1.mono ?_; clear a1; rintro e w1 ⟨P1, d1, r1, rfl, hd1, hC1, hBt, hH1⟩; have hB1 := (hB0.trans (Below.mono hBt hB0.size)).alloc (hB0.trans (Below.mono hBt hB0.size)).size (.cells #[.int .i64 (b : Int), .slice P1 r1.length d1] 25))
    | go_in)
  go_ret
  exact ⟨rfl, hB1.trans (Below.mono hB2 hB1.size)⟩theorem sls_one (p stall : Int) : sls p [stall] = sl p stall := by simp [sls]
set_option maxRecDepth 100000 in
set_option maxHeartbeats 8000000 in
theorem law5g (b : Nat) (stall p : Int) (w : World) (h2 : 2 ≤ b) (h8 : b ≤ 8) (hx : Fine [stall]) (hp1 : 1 ≤ p) (hp2 : p ≤ 1125899906842623) (hn : (sls p [stall]).length ≤ 1000000) (hsm : decide (2000 < stall / p) = false) (htab : Pow10 w) :
    Calls Tryd.prog 5 #[.int .i64 (b : Int), .int .i64 stall, .int .i64 p] w fun e w' => e = .returned (.bool true) ∧ Below w.heap.size w w' := by
  have hC0 := lit_C w stall
  have hv := hx.2 stall (by simp)
  have hv0 := hv.1
  have hv1 := hv.2
  have hlen := sl_len hp1 hv
  have hn2 : (sl p stall).length ≤ 2000 := by
    have := of_decide_eq_false hsm
    generalize stall / p = d at this hlen
    unfold mx at hlen
    split at hlen <;> omega
  have hT1 := fun {r1 : List S44} (h : IsHist (cntF b (sls p [stall])) r1) => exp_tell h2 h8 hx hp1 hn h
  have a1 := exp18g b p (some ⟨w.heap.size, 0, none⟩) 1 [stall] _ h2 h8 hx hp1 hp2 hn hC0
  rw [sls_one] at a1 hT1
  have hfx : Fine (sl p stall) := ⟨by omega, sl_ok hp1 hv⟩
  obtain ⟨r, hT, hRe, _, hor⟩ := Of_both (b : Int) (sl p stall)
  have hrr : ∀ r1 : List S44, IsHist (cntF b (sl p stall)) r1 → r = ((b : Int), r1, 0) := fun r1 h => by
    rcases hor with ⟨_, h0⟩ | ⟨b', e, h2', h8', _, l, e2, hH⟩
    · exact absurd (fault_fine h2 h8 hfx) h0
    · obtain rfl : b = b' := by omega
      rw [e2, hist_unique hH.hist h]
  obtain ⟨k3, hk3⟩ := hRe.rounds
  have a4 := fun (A1 : Option Addr) (c1 : Nat) (W : World) (hC : Kd.C (Kd.int .i64) W A1 (sl p stall).length (sl p stall)) (hc1 : (sl p stall).length ≤ c1) => ans_of_R (dynamometerref9_Of.calls k3 (b : Int) A1 c1 (sl p stall) r.1 r.2.1 r.2.2 W hC hc1 hk3)
  have hB0 : Below w.heap.size w (w.alloc (.cells #[.int .i64 stall] 3)) := (Below.refl _ w).alloc (Nat.le_refl _) _
  have HF := Aside0.mk hfx.1
  clear hC0 hn hx hfx hor hk3 hRe hlen hv
  go_enter Tryd.func5, Tryd.ntmps5
  go_wp2_with (first
    | (go_at_call 18; refine a1.mono ?_; clear a1; rintro e w1 ⟨P1, d1, r1, rfl, hd1, hC1, hBt, hH1⟩; have hB1 := (hB0.trans (Below.mono hBt hB0.size)).alloc (hB0.trans (Below.mono hBt hB0.size)).size (.cells #[.int .i64 (b : Int), .slice P1 r1.length d1] 25))
    | go_in)
  obtain rfl := hrr r1 hH1
  have hT2 := hT1 hH1
  have hC2 := Kd.C_below hC1 ((Below.refl _ w1).alloc (Nat.le_refl _) (.cells #[.int .i64 (b : Int), .slice P1 r1.length d1] 25))
  have b0 := heap_alloc_new w1 (.cells #[.int .i64 (b : Int), .slice P1 r1.length d1] 25)
  have hsz : (w1.alloc (.cells #[.int .i64 (b : Int), .slice P1 r1.length d1] 25)).heap.size = w1.heap.size + 1 := by simp
  clear hrr hT1 hH1 hC1
  obtain ⟨U, hE⟩ : ∃ U, w1.alloc (.cells #[.int .i64 (b : Int), .slice P1 r1.length d1] 25) = U := ⟨_, rfl⟩
  rw [hE] at hB1 hC2 b0 hsz ⊢
  have hO := lit_own U stall
  have he : (⟨U.heap.size, 0, none⟩ : Addr) = ⟨w1.heap.size + 1, 0, none⟩ := by rw [hsz]
  rw [he] at hO
  clear he
  have hfr : ∀ W : World, Below U.heap.size U W → (W.cell? ⟨w1.heap.size, 0, none⟩ = some (.int .i64 (b : Int)) ∧ W.cell? ⟨w1.heap.size, 1, none⟩ = some (.slice P1 r1.length d1)) ∧ Kd.C k44 W P1 r1.length r1 := fun W h =>
    ⟨bx_cells ((h.block _ (by omega)).trans b0), Kd.C_below hC2 h⟩
  have hUp : ∀ W, Below U.heap.size U W → Below w.heap.size w W := fun W h => hB1.trans (Below.mono h hB1.size)
  go_loopw [9, 10] (fun v t wr => ∃ (t0 : Int) (L : List Int), t = .int .i64 t0 ∧ L ++ stx p (stall - t0) = sl p stall ∧ p ≤ t0 ∧ t0 ≤ stall + p ∧ wr.ownsRow U.heap.size 3 1 v L.length (nums .i64 L) ∧ Below U.heap.size U wr)
    (fun v t _ => (stall - intOf t).toNat)
  case atStart => exact ⟨p, [stall], rfl, by simp [sl], by omega, by omega, hO, (Below.refl _ U).alloc (Nat.le_refl _) _⟩
  case round =>
    obtain ⟨t0, L, rfl, hL, ht1, ht2, hown, hB⟩ := hrel
    by_cases hpz : p ≤ stall - t0
    · have hd3 : decide (p ≤ stall - t0) = true := decide_eq_true hpz
      have hst := stx_pos hp1 hpz
      rw [hst] at hL
      have hlen := congrArg List.length hL
      rw [List.length_append, List.length_cons] at hlen
      have hL2 : (L.length + 1) * 8 ≤ 140737488355328 := by omega
      have hRd := C_reads (lit_C wr (stall - t0))
      have hB2 : Below U.heap.size U (wr.alloc (.cells #[.int .i64 (stall - t0)] 3)) := hB.alloc hB.size _
      have HL := Aside0.mk hL
      clear hL hst hlen hB hO
      obtain ⟨A5, c5, rfl⟩ := row_slice hown
      go_wp2_with (first
        | ((with_reducible refine gate_builtin (b := .append) (xs := #[.tmp 39, .tmp 43]) rfl ?_); at_builtin; go_loud (refine print_append_row (w0 := U) U.heap.size rfl (.tmp 39) (.tmp 43) 22 3 .i64 8 rfl Tryd.underlying22 info3 (by decide) (.slice A5 L.length c5) L [stall - t0] (some ⟨wr.heap.size, 0, none⟩) 1 1 rfl rfl (hown.alloc _) hRd hB2 hB2.size hL2 ?_); intro v6 w6 hown6 hB6 hg6 hat6)
        | go_in)
      exact ⟨⟨t0 + p, L ++ [stall - t0], rfl, by have := HL.out; rw [show stall - (t0 + p) = stall - t0 - p by omega]; simpa using this, by omega, by omega, hown6, hB6⟩, by simp [intOf]; omega⟩
    · have hd3 : decide (p ≤ stall - t0) = false := decide_eq_false hpz
      rw [stx_neg hp1 hpz, List.append_nil] at hL
      subst hL
      obtain ⟨A5, c5, rfl⟩ := row_slice hown
      have hC5 := own_C hown
      have hc5 := own_cap hown
      obtain ⟨⟨f0, f1⟩, hCw⟩ := hfr wr hB
      have up1 : ∀ {W W' : World}, Below U.heap.size U W → Below W.heap.size W W' → Below U.heap.size U W' := fun h h' => h.trans (Below.mono h' h.size)
      go_wp2_with (first
        | (go_at_call 16; refine (counts10 _).mono ?_; rintro e w9 ⟨rfl, hB9⟩)
        | (go_at_call 11; refine (tellRes ((b : Int), r1, 0) hT (d := d7) hC7 (hUp w7 (up1 (up1 hB hB6) hB7)) htab).mono ?_; rintro e w8 ⟨rfl, hB8⟩)
        | (go_at_call 13; refine (a4 A5 c5 w6 (Kd.C_below hC5 hB6) hc5).mono ?_; rintro e w7 ⟨P7, d7, rfl, hd7, hC7, hB7⟩)
        | (go_at_call 11; refine (tellRes ((b : Int), r1, 0) hT2 (d := d1) hCw (hUp wr hB) htab).mono ?_; rintro e w6 ⟨rfl, hB6⟩)
        | go_in)
      go_ret
      exact ⟨rfl, hUp _ (up1 (up1 (up1 (up1 hB hB6) hB7) hB8) hB9)⟩
theorem law5 (bits stall p : Int) (w : World) (htab : Pow10 w) :
    Calls Tryd.prog 5 #[.int .i64 bits, .int .i64 stall, .int .i64 p] w fun e w' => e = .returned (.bool true) ∧ Below w.heap.size w w' := by
  by_cases h : efault bits [stall] p = 0
  · obtain ⟨b, rfl, h2, h8, hx, hp1, hp2, hn⟩ := exp_zero h
    by_cases hd : 2000 < stall / p
    · exact law5b b stall p w h2 h8 hx hp1 hp2 hn (decide_eq_true hd)
    · exact law5g b stall p w h2 h8 hx hp1 hp2 hn (decide_eq_false hd) htab
  · exact law5e bits stall p _ w rfl (by simpa using h)
#print axioms law5
end Go.Proofs.YtlkameeaaplonaaDoor

/- What a row opens: ints, lists of ints, histograms; the table of powers of ten out of the row's list. Condition: none. -/
namespace Go.Proofs.YtlkameeaaplonaaDoor.DRow
open Go.ChangeShapes Go.WideShapes Go.ChangeAt Go.RowKit Go.Deep Go.Proofs.YtlkameeaaplonaaDoor.QMeasureExpectedIsAStall
open Go.Proofs.YtlkameeaaplonaaDoorW.PrintWords
set_option linter.unusedVariables false
section
variable {H : Type} {enc : TypeId × Value → H} {w : World} {base : Nat} {spare : Nat → Bool} {held : Bool}
/-- A slice, from its cells; its elements by their own law. -/
theorem slice_open {α : Type} (d : Kd α) (Q : α → Prop) {t e : TypeId} (ht : Tryd.prog.underlying t = some (.slice e)) (hc : Tryd.prog.cellsOf e = d.sz)
    (elem : ∀ {fuel : Nat} {cs : List Value} {x : DataW H × List MemPlace}, DataW.trod enc Tryd.prog w base spare held fuel e cs = some x → ∃ s : α, d.K w s cs ∧ Q s)
    {fuel : Nat} {cs : List Value} {x : DataW H × List MemPlace} (hf : DataW.trod enc Tryd.prog w base spare held fuel t cs = some x) :
    ∃ (a : Option Addr) (len cap : Nat) (l : List α), cs = [.slice a len cap] ∧ l.length = len ∧ len ≤ cap ∧ Kd.C d w a len l ∧ ∀ s ∈ l, Q s := by
  rcases open_slice ht hf with ⟨hcs, _⟩ | ⟨x, ln, c, m, n, D, Pl, hcs, _, hl, hm, hmm, _, hx⟩
  · exact ⟨none, 0, 0, [], hcs, rfl, Nat.le_refl _, ⟨rfl, by omega, fun h => absurd h (by omega)⟩, by simp⟩
  · have hlm : ln ≤ m := by rw [hmm]; split <;> omega
    have each : ∀ i, i < ln → ∃ (s : α) (cs' : List Value), w.cells? base (x.add (i * d.sz)) d.sz = some cs' ∧ d.K w s cs' ∧ Q s := by
      intro i hi
      obtain ⟨cs', h1, h2⟩ := hx i (by omega)
      obtain ⟨s, hs⟩ := elem h2
      rw [hc] at h1
      exact ⟨s, cs', h1, hs⟩
    have hsome : ∀ n : Nat, n ≤ ln → ∃ l : List α, l.length = n ∧ (∀ i s, l[i]? = some s → ∃ cs', w.cells? base (x.add (i * d.sz)) d.sz = some cs' ∧ d.K w s cs') ∧ ∀ s ∈ l, Q s := by
      intro n
      induction n with
      | zero => intro _; exact ⟨[], rfl, by simp, by simp⟩
      | succ n ih =>
        intro hn
        obtain ⟨l, h1, h2, h3⟩ := ih (by omega)
        obtain ⟨s, cs', hs, hk, hq⟩ := each n (by omega)
        refine ⟨l ++ [s], by simp [h1], fun i t ht => ?_, fun t ht => ?_⟩
        · by_cases hi : i < l.length
          · rw [List.getElem?_append_left hi] at ht
            exact h2 i t ht
          · rw [List.getElem?_append_right (by omega)] at ht
            have hi' : i = n := by
              have := (List.getElem?_eq_some_iff.1 ht).1
              simp at this
              omega
            subst hi'
            rw [h1, Nat.sub_self] at ht
            simp at ht
            subst ht
            exact ⟨cs', hs, hk⟩
        · rcases List.mem_append.1 ht with h | h
          · exact h3 t h
          · obtain rfl := List.mem_singleton.1 h
            exact hq
    obtain ⟨l, h1, h2, h3⟩ := hsome ln (Nat.le_refl _)
    refine ⟨some x, ln, c, l, hcs, h1, hl, ⟨h1, by unfold maxLen at hm; omega, fun _ => ⟨x, rfl, fun j s hj => ?_⟩⟩, h3⟩
    obtain ⟨cs', h3, h4⟩ := h2 j s hj
    obtain ⟨_, hlen, hcell⟩ := World.cells?_some h3
    refine ⟨cs', d.K_len h4, h4, fun i u hu => ?_⟩
    have hi : i < d.sz := by have := (List.getElem?_eq_some_iff.1 hu).1; rw [d.K_len h4] at this; exact this
    have := hcell i hi
    rw [hu, Go.Deep.add_add] at this
    exact this
abbrev wf64 (s : Int) : Prop := (Lit.int .i64 s).wf = true
theorem int_open {fuel : Nat} {cs : List Value} {x : DataW H × List MemPlace} (h : DataW.trod enc Tryd.prog w base spare held fuel 3 cs = some x) : ∃ s : Int, (Kd.int .i64).K w s cs ∧ wf64 s := by
  obtain ⟨n0, e0, _, hw⟩ := DataW.trod_int Tryd.underlying3 h
  exact ⟨n0, e0, hw⟩
/-- A list of ints, from what is read. -/
theorem ints_open {a : Option Addr} {len cap : Nat} {d : DataW H} {ps : List MemPlace} (h : DataW.Trod enc Tryd.prog w base spare held 22 (.slice a len cap) d ps) :
    ∃ l : List Int, l.length = len ∧ len ≤ cap ∧ Kd.C (Kd.int .i64) w a len l ∧ ∀ s ∈ l, wf64 s := by
  obtain ⟨fuel, hf⟩ := h
  obtain ⟨a', len', cap', l, e, h1, h2, h3, h4⟩ := slice_open (Kd.int .i64) wf64 Tryd.underlying22 (by kernel_rfl) (fun h => int_open h) hf
  simp [Value.cells] at e
  obtain ⟨rfl, rfl, rfl⟩ := e
  exact ⟨l, h1, h2, h3, h4⟩
theorem count_open {fuel : Nat} {cs : List Value} {x : DataW H × List MemPlace} (h : DataW.trod enc Tryd.prog w base spare held fuel 44 cs = some x) : ∃ s : S44, k44.K w s cs ∧ (wf64 s.f0 ∧ wf64 s.f1) := by
  obtain ⟨xs, k, _, _, hlen, hxl, hf⟩ := DataW.trod_struct Tryd.underlying44 h
  have hc : Tryd.prog.cellsOf 44 = 2 := by kernel_rfl
  have hc3 : Tryd.prog.cellsOf 3 = 1 := by kernel_rfl
  rw [hc] at hlen
  have hxl' : xs.length = 2 := hxl
  clear hxl
  have e2 : ∀ {α : Type} (l : List α), l.length = 2 → ∃ a b, l = [a, b] := by
    intro α l hl
    rcases l with _ | ⟨a, _ | ⟨b, _ | ⟨c, l⟩⟩⟩ <;> simp at hl
    exact ⟨a, b, rfl⟩
  obtain ⟨v0, v1, rfl⟩ := e2 cs hlen
  obtain ⟨y0, y1, rfl⟩ := e2 xs hxl'
  have g0 := hf 0 _ rfl
  have g1 := hf 1 _ rfl
  simp [hc3] at g0 g1
  obtain ⟨s0, e0, _, q0⟩ := DataW.trod_int Tryd.underlying3 g0
  obtain ⟨s1, e1, _, q1⟩ := DataW.trod_int Tryd.underlying3 g1
  simp at e0 e1
  exact ⟨⟨s0, s1⟩, by rw [e0, e1]; exact k44_mk w ⟨s0, s1⟩, q0, q1⟩
/-- A histogram, from what is read. -/
theorem hist_open {r : Reach} {b0 : Nat} {v : Value} {d : DataW H} {p : List MemPlace} (hv : Value.okWide Tryd.prog w r b0 25 v) (h : DataW.Trod enc Tryd.prog w base spare held 25 v d p) :
    ∃ (bits : Int) (a : Option Addr) (l : List S44) (cap : Nat), v = .agg #[.int .i64 bits, .slice a l.length cap] ∧ l.length ≤ cap ∧ wf64 bits ∧ Kd.C k44 w a l.length l ∧ ∀ s ∈ l, wf64 s.f0 ∧ wf64 s.f1 := by
  obtain ⟨v0, v1, y0, y1, n, rfl, _, _, h0, h1⟩ := Joins.open_agg2 Tryd.underlying25 (by kernel_rfl) (by kernel_rfl) hv h
  obtain ⟨bits, e0, _, hw⟩ := DataW.trod_int Tryd.underlying3 h0
  obtain ⟨a, len, cap, l, e1, rfl, h2, h3, h4⟩ := slice_open k44 (fun s => wf64 s.f0 ∧ wf64 s.f1) Tryd.underlying23 (by kernel_rfl) (fun h => count_open h) h1
  simp at e0 e1
  subst e0 e1
  exact ⟨bits, a, l, cap, rfl, h2, hw, h3, h4⟩
end
theorem own : ownKnob Tryd.prog.godebug = none := by kernel_rfl
theorem laidOut : laidOutB Tryd.prog = true := by kernel_rfl
/-- The list of each row of this seat. -/
def laid : List (String × DataW Unit) := [("math/bits.deBruijn32tab", Rows.laid_math_bits_deBruijn32tab), ("math/bits.deBruijn64tab", Rows.laid_math_bits_deBruijn64tab), ("internal/strconv.uint64pow10", Rows.laid_internal_strconv_uint64pow10)]
theorem pow10_eq : (Rows.laid_internal_strconv_uint64pow10 : DataW Unit) = Lib.tabData .u64 Lib.pow10Tab := by kernel_rfl
theorem table {W : World} (h : laidMetH Tryd.prog laid W) : Lib.TabBelow Tryd.prog W.heap.size W "internal/strconv.uint64pow10" .u64 Lib.pow10Tab := by
  rw [MakeChecks.laidMetH_plain _ _ _ (by kernel_rfl)] at h
  have h3 := h.tail.tail
  rw [pow10_eq] at h3
  exact Lib.tabBelow_of_tabIs (Lib.tabIs_of_head (rest := []) (g := 0) (t := 94) (e := 78) (n := 20) (by kernel_rfl) (by kernel_rfl) Tryd.underlying94 Tryd.underlying78 (by kernel_rfl) (by kernel_rfl) h3)
end Go.Proofs.YtlkameeaaplonaaDoor.DRow

/- MeasureExpectedIsAStall: the row and its tied card. Condition: the row's own list of variables. -/
namespace Go.Proofs.YtlkameeaaplonaaDoor.measureExpectedIsAStall
open Go.ChangeShapes Go.WideShapes Go.ChangeAt Go.RowKit Go.Deep Go.Proofs.YtlkameeaaplonaaDoor.QMeasureExpectedIsAStall Go.Proofs.YtlkameeaaplonaaDoor.DRow
open Go.Proofs.YtlkameeaaplonaaDoorW.PrintWords
set_option linter.unusedVariables false
theorem door_met (os : Os) (args : Array Value) : laidMetH Tryd.prog Rows.measureExpectedIsAStallRow.laid ((World.doorLaid Tryd.prog 400 os).forCall (fun _ _ => 0) ⟨#[], args, []⟩).memory :=
  laidMetH_of_parts3 (fuel := 8) (laidMet_of_run' 8 (by kernel_rfl) (by kernel_rfl)) (by kernel_rfl) (by kernel_rfl)
set_option maxRecDepth 100000 in
theorem lifted (os : Os) (started : os.Started) (H : Type) (enc : TypeId × Value → H) :
    ReturnsInHanded {} Tryd.checked os 5 .any (fun w args => (Rows.measureExpectedIsAStallSpec.pre enc Tryd.prog Tryd.f5 [] false w args ∧ laidMetH Tryd.prog Rows.measureExpectedIsAStallRow.laid w) ∧ sizedMet enc Tryd.prog Tryd.f5 (OpenSpec.ofChange Rows.measureExpectedIsAStallSpec) false w args)
      (Rows.measureExpectedIsAStallSpec.post enc Tryd.prog Tryd.f5 false true false false) := by
  refine returnsInHanded_of_change_and (C := Tryd.checked) (X := fun w _ => laidMetH Tryd.prog Rows.measureExpectedIsAStallRow.laid w) (fun _ _ _ hh h => h.of_heap hh) own started (by kernel_rfl) Tryd.func5
    (ChangeSpec.witness_shaped (enc := enc) (C := Tryd.checked) (os := os) (X := fun w _ => laidMetH Tryd.prog Rows.measureExpectedIsAStallRow.laid w) false (World.doorLaid Tryd.prog 400 os) #[.int .i64 0, .int .i64 0, .int .i64 0] 8 rfl (World.shaped_of_RefB (by kernel_rfl) (by kernel_rfl)) (by kernel_rfl) (by kernel_rfl) (by kernel_rfl) (door_met os _)) ?_
  intro W base args ds gs before hval0 hW _ _ hL _
  have htab := table (show laidMetH Tryd.prog laid W from hL)
  have hval : ∀ (j : Nat) t v, Tryd.f5.params[j]? = some t → args[j]? = some v → Value.okWide Tryd.prog W .any base t v := hval0
  have hW' := hW
  obtain ⟨p, q, hA0, hV, rfl, hfz, hnd⟩ := hW
  have hA : DataW.TrodAll enc Tryd.prog W 0 (fun _ => true) true Tryd.f5.params.toList args.toList ds p := hA0
  rw [Tryd.params5] at hA hval
  obtain ⟨v0, vs0, d0, ds0, p0, q0, hargs, rfl, rfl, h0, r0⟩ := trodAll_cons hA
  obtain ⟨v1, vs1, d1, ds1, p1, q1, rfl, rfl, rfl, h1, r1⟩ := trodAll_cons r0
  obtain ⟨v2, vs2, d2, ds2, p2, q2, rfl, rfl, rfl, h2, r2⟩ := trodAll_cons r1
  obtain ⟨rfl, rfl, rfl⟩ := trodAll_nil r2
  obtain rfl : args = #[v0, v1, v2] := by cases args; simp_all
  obtain ⟨rfl, rfl⟩ := trodVars_none hV
  obtain ⟨a0, rfl, rfl, rfl, w0⟩ := open_int Tryd.underlying3 (hval 0 3 v0 rfl rfl) h0
  obtain ⟨a1, rfl, rfl, rfl, w1⟩ := open_int Tryd.underlying3 (hval 1 3 v1 rfl rfl) h1
  obtain ⟨a2, rfl, rfl, rfl, w2⟩ := open_int Tryd.underlying3 (hval 2 3 v2 rfl rfl) h2
  clear hA0 hval0
  refine (law5 a0 a1 a2 W htab).mono fun e W' ⟨he, bel⟩ => ?_
  subst he
  exact ⟨_, rfl, _, _, _, [], _, [], hW', trodAll_mk1 (shut_bool Tryd.underlying4 _), (trodAll_cons_mk (shut_int Tryd.underlying3 w0) (trodAll_cons_mk (shut_int Tryd.underlying3 w1) (trodAll_cons_mk (shut_int Tryd.underlying3 w2) trodAll_mk0))), rfl, bel.frame _, fun h => by cases h⟩
theorem over : Rows.measureExpectedIsAStallRow.holds Tryd.pinned (OpenSpec.ofChange Rows.measureExpectedIsAStallSpec) :=
  OpenClaim.holds_of_wide 5 Tryd.f5 rfl rfl rfl rfl rfl rfl rfl ⟨rfl, rfl, rfl, rfl, rfl⟩ rfl rfl rfl rfl rfl (by kernel_rfl) Tryd.func5 (by kernel_rfl)
    (of_decide_eq_true (by kernel_rfl)) (by unfold Func.isWrapper; first | (rw [if_pos (by decide +kernel)]; kernel_rfl) | (rw [if_neg (by decide +kernel)]; exact ⟨rfl, rfl⟩))
    (fun os started H enc _ => lifted os started H enc)
theorem plain (f : FuncId) (fn : Func) (hf : Tryd.pinned.checked.prog.funcNamed "dynamometer/dynamometerlaw9.MeasureExpectedIsAStall" = some f) (hfn : Tryd.pinned.checked.prog.funcs[f]? = some fn) :
    false = Tryd.pinned.checked.prog.looks [] ∧ ∀ (j : Nat) t, fn.params[j]? = some t → Tryd.pinned.checked.prog.wantsStandIn t = false := by
  obtain rfl : f = 5 := Option.some.inj ((show Tryd.prog.funcNamed "dynamometer/dynamometerlaw9.MeasureExpectedIsAStall" = some 5 by kernel_rfl).symm.trans hf) |>.symm
  obtain rfl : fn = Tryd.f5 := (Option.some.inj (Tryd.func5.symm.trans hfn)).symm
  refine ⟨by kernel_rfl, fun j t ht => ?_⟩
  rw [Tryd.params5] at ht
  have hm : t ∈ [3, 3, 3] := by simpa using Array.mem_of_getElem? ht
  have hall : ([3, 3, 3].all fun u => !Tryd.prog.wantsStandIn u) = true := by kernel_rfl
  exact (show Tryd.prog.wantsStandIn t = false by simpa using List.all_eq_true.1 hall t hm)
end Go.Proofs.YtlkameeaaplonaaDoor.measureExpectedIsAStall
namespace Go.Proofs.YtlkameeaaplonaaDoor
/-- The card. -/
theorem measureExpectedIsAStall_holds : Rows.MeasureExpectedIsAStallCardSaid :=
  Claim7.holds_tied_plain_at .later [] _ _ _ _ measureExpectedIsAStall.over (fun _ h => by cases h) (by kernel_rfl) (fun _ h => by cases h) measureExpectedIsAStall_row_tie rfl ⟨rfl, rfl⟩ (by kernel_rfl) rfl measureExpectedIsAStall.plain (by kernel_rfl)
#print axioms measureExpectedIsAStall_holds
end Go.Proofs.YtlkameeaaplonaaDoor
