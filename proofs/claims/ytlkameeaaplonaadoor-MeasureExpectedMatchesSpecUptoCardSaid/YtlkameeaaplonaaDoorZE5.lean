/- The texts of the claim, part 5: each says in its own first line what is proved and its conditions. -/
import Derived.Deep.RegionHeld3
import Derived.Test.YtlkameeaaplonaaDoorZE1
import Derived.Test.YtlkameeaaplonaaDoorZE2
import Derived.Test.YtlkameeaaplonaaDoorZE3
import Derived.Test.YtlkameeaaplonaaDoorZE4
/- The bucket of a value, by the reference. Condition: the value is good. -/
namespace Go.Proofs.YtlkameeaaplonaaDoor
open Go.RowKit Go.Proofs.YtlkameeaaplonaaDoor.QMeasureExpectedMatchesSpec Go.Proofs.YtlkameeaaplonaaDoorW.PrintWords Go.Proofs.YtlkameeaaplonaaDoorW.PrintLast Go.Proofs.YtlkameeaaplonaaDoorW.PrintMore
set_option linter.unusedVariables false
set_option linter.unusedSimpArgs false
theorem place_ev {b : Nat} (h2 : 2 ≤ b) (h8 : b ≤ 8) {v : Int} (hv : okV v) : Ev (fun k => dynamometerref9_place.f k (b : Int) v) (bkt b v) := by
  have P := par_of b h2 h8
  obtain ⟨m, rfl⟩ := Int.eq_ofNat_of_zero_le hv.1
  have hm : m < 1125899906842624 := by omega
  rcases value_cases P m hm with h0 | ⟨j, h1, h3, hj⟩
  · refine ⟨1, fun k hk => ?_⟩
    obtain ⟨k, rfl⟩ : ∃ n, k = n + 1 := ⟨k - 1, by omega⟩
    rw [bkt_lo P m h0]
    exact place_lo P m k h0
  · refine ⟨j + 2, fun k hk => ?_⟩
    obtain ⟨n, rfl⟩ : ∃ n, k = j + n + 2 := ⟨k - (j + 2), by omega⟩
    rw [bkt_hi P m j h1 h3 hm]
    exact place_hi P m j n h1 h3 hm
end Go.Proofs.YtlkameeaaplonaaDoor

/- Expected, by measure and by its reference: the same answer for all values and periods. -/
namespace Go.Proofs.YtlkameeaaplonaaDoor
open Go.Shelf Go.RowKit Go.Maps Go.Proofs.YtlkameeaaplonaaDoor.QMeasureExpectedMatchesSpec
open Go.Proofs.YtlkameeaaplonaaDoorW.PrintWords Go.Proofs.YtlkameeaaplonaaDoorW.PrintLast Go.Proofs.YtlkameeaaplonaaDoorW.PrintMore
set_option linter.unusedVariables false
set_option linter.unusedSectionVars false
theorem sumW (L M : Nat) (d : Int) (h : (M : Int) = mx 1 d) (hL : L ≤ 1000000) (hd0 : 0 ≤ d) (hd : d ≤ 1125899906842624) : wrap64 ((L : Int) + mx 1 (wrap64 d)) = ((L + M : Nat) : Int) := by
  rw [w64 (n := d) (by omega) (by omega), ← h]
  have : (M : Int) ≤ 1125899906842624 := by
    rw [h]
    unfold mx
    split <;> omega
  rw [w64 (by omega) (by omega)]
  omega
section
variable {b : Nat} {p : Int} {xs : List Int} (h2 : 2 ≤ b) (h8 : b ≤ 8) (hx : Fine xs) (hp1 : 1 ≤ p) (hp2 : p ≤ 1125899906842623)
include h2 h8 hx hp1 hp2
theorem exp_l0 (res : Res) (hfin : ∀ S : Nat, (S = (sls p xs).length ∨ 1000000 < S ∧ S ≤ (sls p xs).length) → Ev (fun k => dynamometerref9_Expected.j2 k (b : Int) xs p (S : Int)) res) : ∀ (d i : Nat), i + d = xs.length →
    Ev (fun k => dynamometerref9_Expected.l0 k (b : Int) xs p ((sls p (xs.take i)).length : Int) (i : Int)) res := by
  have hxl := hx.1
  intro d
  induction d with
  | zero =>
    intro i hi
    rw [List.take_of_length_le (by omega)]
    refine Ev.step (fun k => ?_) (hfin _ (.inl rfl))
    rw [dynamometerref9_Expected.l0, if_neg (by omega)]
  | succ d ih =>
    intro i hi
    have hil : i < xs.length := by omega
    by_cases hs0 : (sls p (xs.take i)).length ≤ 1000000
    · have hin : rd xs (i : Int) ∈ xs := by rw [rdI hil]; exact List.getElem_mem _
      have hv := hx.2 _ hin
      have hlen := sl_len hp1 hv
      have h := ih (i + 1) (by omega)
      rw [sls_take p xs i hil, List.length_append] at h
      have ht : Int.tdiv (rd xs (i : Int)) p = rd xs (i : Int) / p := Int.tdiv_eq_ediv_of_nonneg hv.1
      have hd0 : 0 ≤ rd xs (i : Int) / p := Int.ediv_nonneg hv.1 (by omega)
      have hd1 : rd xs (i : Int) / p ≤ 1125899906842624 := by
        have h1 : rd xs (i : Int) / p ≤ rd xs (i : Int) := Int.ediv_le_self _ hv.1
        have h2' := hv.2
        generalize rd xs (i : Int) / p = d at h1 ⊢
        omega
      have hw := sumW (sls p (xs.take i)).length (sl p (rd xs (i : Int))).length _ hlen hs0 hd0 hd1
      have HW := Aside0.mk hw
      clear hw hlen hd0 hd1
      refine Ev.step (fun k => ?_) h
      rw [dynamometerref9_Expected.l0, if_pos (by omega), if_pos (by omega), if_pos (by omega), if_neg (by omega), ht, HW.out, add1N i (by omega)]
    · have hle := sls_len_take p xs i
      refine Ev.step (fun k => ?_) (hfin (sls p (xs.take i)).length (.inr ⟨by omega, hle⟩))
      rw [dynamometerref9_Expected.l0, if_pos (by omega), if_neg (by omega)]
theorem acc_step {L : List Int} {acc : List S44} (hL : L.length < 1000000) (hH : IsH (cntF b L) L.length acc) {u : Int} (hu : okV u) :
    Ev (fun k => dynamometerref9_place.f k (b : Int) u) (bkt b u) ∧ Ev (fun k => dynamometerref9_more.f k (b : Int) acc (bkt b u) 1) ((b : Int), moreF (bkt b u) 1 acc) ∧ IsH (cntF b (L ++ [u])) (L ++ [u]).length (moreF (bkt b u) 1 acc) := by
  have hbd := isH_bound hH (B := 1000000) (fun y => by have := cntF_le b L y; omega)
  have hH' := isH_more hH (cntF_nonneg b L) (bkt b u) 1 (by decide)
  refine ⟨place_ev h2 h8 hu, more_ev (bkt b u) 1 (b : Int) acc (by have := hH.len; omega) (fun s hs' => by have := hbd s hs'; omega), hH'.hist.congr (fun y => by rw [cntF_snoc]), ?_⟩
  have := hH'.len
  rw [List.length_append]
  exact this
theorem exp_l2 (i : Nat) {pre : List Int} {v : Int} (hv : okV v) (hn : pre.length + (sl p v).length ≤ 1000000) (P : List S44 → Prop)
    (hnext : ∀ acc, IsH (cntF b (pre ++ sl p v)) (pre ++ sl p v).length acc → ∃ r, Ev (fun k => dynamometerref9_Expected.l1 k (b : Int) xs p (wrap64 ((i : Int) + 1)) (b : Int) acc) ((b : Int), r, 0) ∧ P r) :
    ∀ (d : Nat) (z : Int) (L : List Int) (acc : List S44), z.toNat ≤ d → L ++ stx p z = pre ++ sl p v → z ≤ v → -p ≤ z → IsH (cntF b L) L.length acc →
    ∃ r, Ev (fun k => dynamometerref9_Expected.l2 k (b : Int) xs p (i : Int) z (b : Int) acc) ((b : Int), r, 0) ∧ P r := by
  intro d
  induction d with
  | zero =>
    intro z L acc hd hL hz1 hz2 hH
    have hz : ¬ p ≤ z := by omega
    rw [stx_neg hp1 hz, List.append_nil] at hL
    subst hL
    obtain ⟨r, hr, hP⟩ := hnext acc hH
    refine ⟨r, Ev.step (fun k => ?_) hr, hP⟩
    rw [dynamometerref9_Expected.l2, if_neg (by omega)]
  | succ d ih =>
    intro z L acc hd hL hz1 hz2 hH
    by_cases hz : p ≤ z
    · have hlen : L.length + (stx p z).length = pre.length + (sl p v).length := by have := congrArg List.length hL; rw [List.length_append, List.length_append] at this; exact this
      rw [stx_pos hp1 hz] at hL hlen
      rw [List.length_cons] at hlen
      have hv1 := hv.2
      obtain ⟨⟨K1, e1⟩, ⟨K2, e2⟩, hH'⟩ := acc_step h2 h8 hx hp1 hp2 (L := L) (by omega) hH (u := z) ⟨by omega, by omega⟩
      obtain ⟨r, ⟨K3, e3⟩, hP⟩ := ih (z - p) (L ++ [z]) _ (by omega) (by rw [List.append_assoc, List.singleton_append]; exact hL) (by omega) (by omega) hH'
      have hw : wrap64 (z - p) = z - p := w64 (by omega) (by omega)
      have HW := Aside0.mk hw
      clear hw
      refine ⟨r, ⟨K1 + K2 + K3 + 1, fun k hk => ?_⟩, hP⟩
      obtain ⟨k, rfl⟩ : ∃ n, k = n + 1 := ⟨k - 1, by omega⟩
      have f1 := e1 k (by omega)
      have f2 := e2 k (by omega)
      have f3 := e3 k (by omega)
      simp only at f1 f2 f3 ⊢
      rw [dynamometerref9_Expected.l2, if_pos (by omega), f1, Option.bind_some, f2, Option.bind_some, HW.out]
      exact f3
    · rw [stx_neg hp1 hz, List.append_nil] at hL
      subst hL
      obtain ⟨r, hr, hP⟩ := hnext acc hH
      refine ⟨r, Ev.step (fun k => ?_) hr, hP⟩
      rw [dynamometerref9_Expected.l2, if_neg (by omega)]
theorem exp_l1 (hn : (sls p xs).length ≤ 1000000) : ∀ (d i : Nat) (acc : List S44), i + d = xs.length → IsH (cntF b (sls p (xs.take i))) (sls p (xs.take i)).length acc →
    ∃ r, Ev (fun k => dynamometerref9_Expected.l1 k (b : Int) xs p (i : Int) (b : Int) acc) ((b : Int), r, 0) ∧ IsHist (cntF b (sls p xs)) r := by
  have hxl := hx.1
  intro d
  induction d with
  | zero =>
    intro i acc hi hH
    rw [List.take_of_length_le (by omega)] at hH
    refine ⟨acc, Ev.step (f := fun _ => some ((b : Int), acc, 0)) (fun k => ?_) (Ev.now _), hH.hist⟩
    rw [dynamometerref9_Expected.l1, if_neg (by omega)]
  | succ d ih =>
    intro i acc hi hH
    have hil : i < xs.length := by omega
    have hin : rd xs (i : Int) ∈ xs := by rw [rdI hil]; exact List.getElem_mem _
    have hv := hx.2 _ hin
    have hv0 := hv.1
    have hv1 := hv.2
    have hst := sls_take p xs i hil
    have hle := sls_len_take p xs (i + 1)
    rw [hst, List.length_append] at hle
    have hsl : (sl p (rd xs (i : Int))).length = (stx p (rd xs (i : Int) - p)).length + 1 := by unfold sl; rw [List.length_cons]
    obtain ⟨⟨K1, e1⟩, ⟨K2, e2⟩, hH'⟩ := acc_step h2 h8 hx hp1 hp2 (L := sls p (xs.take i)) (by omega) hH hv
    obtain ⟨r, ⟨K3, e3⟩, hr⟩ := exp_l2 h2 h8 hx hp1 hp2 i (pre := sls p (xs.take i)) hv (by omega) (IsHist (cntF b (sls p xs))) (fun acc' h => by
      rw [add1N i (by omega)]
      rw [← hst] at h
      exact ih (i + 1) acc' (by omega) h) (rd xs (i : Int) - p).toNat (rd xs (i : Int) - p) (sls p (xs.take i) ++ [rd xs (i : Int)]) _ (Nat.le_refl _) (by unfold sl; rw [List.append_assoc, List.singleton_append]) (by omega) (by omega) hH'
    have hw : wrap64 (rd xs (i : Int) - p) = rd xs (i : Int) - p := w64 (by omega) (by omega)
    have HW := Aside0.mk hw
    clear hw
    refine ⟨r, ⟨K1 + K2 + K3 + 1, fun k hk => ?_⟩, hr⟩
    obtain ⟨k, rfl⟩ : ∃ n, k = n + 1 := ⟨k - 1, by omega⟩
    have f1 := e1 k (by omega)
    have f2 := e2 k (by omega)
    have f3 := e3 k (by omega)
    simp only at f1 f2 f3 ⊢
    rw [dynamometerref9_Expected.l1, if_pos (by omega), if_pos (by omega), f1, Option.bind_some, f2, Option.bind_some, HW.out]
    exact f3
theorem exp_top (res : Res) (hl0 : Ev (fun k => dynamometerref9_Expected.l0 k (b : Int) xs p 0 0) res) : Ev (fun k => dynamometerref9_Expected.f k (b : Int) xs p) res := by
  have hv := vf_ev (b : Int) xs
  rw [fault_fine h2 h8 hx] at hv
  obtain ⟨K1, e1⟩ := hv
  obtain ⟨K2, e2⟩ := hl0
  refine ⟨K1 + K2 + 1, fun k hk => ?_⟩
  obtain ⟨k, rfl⟩ : ∃ n, k = n + 1 := ⟨k - 1, by omega⟩
  have f1 := e1 (k + 1) (by omega)
  have f2 := e2 k (by omega)
  simp only at f1 f2 ⊢
  unfold dynamometerref9_Expected.f
  rw [f1, Option.bind_some, if_pos rfl, if_neg (by omega), decide_eq_false (by omega), dynamometerref9_Expected.j0, if_neg (by decide)]
  exact f2
theorem exp_size (hn : 1000000 < (sls p xs).length) : Ev (fun k => dynamometerref9_Expected.f k (b : Int) xs p) (0, [], 3) := by
  refine exp_top h2 h8 hx hp1 hp2 _ (Ev.congr (fun k => rfl) (exp_l0 h2 h8 hx hp1 hp2 (0, [], 3) (fun S hS => ?_) xs.length 0 (by omega)))
  refine Ev.step (f := fun _ => some (0, [], 3)) (fun k => ?_) (Ev.now _)
  rw [dynamometerref9_Expected.j2, if_pos (by omega)]
theorem exp_good (hn : (sls p xs).length ≤ 1000000) : ∃ r, Ev (fun k => dynamometerref9_Expected.f k (b : Int) xs p) ((b : Int), r, 0) ∧ IsHist (cntF b (sls p xs)) r := by
  obtain ⟨r, hr, hH⟩ := exp_l1 h2 h8 hx hp1 hp2 hn xs.length 0 [] (by omega) ⟨(isH_nil 0).hist.congr (fun y => by simp [sls, cntF]), by simp [sls]⟩
  refine ⟨r, exp_top h2 h8 hx hp1 hp2 _ (Ev.congr (fun k => rfl) (exp_l0 h2 h8 hx hp1 hp2 ((b : Int), r, 0) (fun S hS => ?_) xs.length 0 (by omega))), hH⟩
  refine Ev.step (fun k => ?_) hr
  rw [dynamometerref9_Expected.j2, if_neg (by omega)]
  rfl
end
theorem exp_both (bits p : Int) (xs : List Int) : ∃ r : Res, Tell r ∧ Ev (fun k => dynamometerref9_Expected.f k bits xs p) r ∧
    (∀ (A : Option Addr) (q : Nat) (w : World), Kd.C (Kd.int .i64) w A xs.length xs → Ans 18 #[.int .i64 bits, .slice A xs.length q, .int .i64 p] w r) ∧ r.2.2 = efault bits xs p ∧
    (r.2.2 = 0 → ∃ (b : Nat) (l : List S44), bits = (b : Int) ∧ 2 ≤ b ∧ b ≤ 8 ∧ Fine xs ∧ 1 ≤ p ∧ p ≤ 1125899906842623 ∧ (sls p xs).length ≤ 1000000 ∧ r = ((b : Int), l, 0) ∧ IsHist (cntF b (sls p xs)) l) := by
  by_cases hf : fault bits xs = 0
  · obtain ⟨b, rfl, h2, h8, hx⟩ := fault_zero hf
    by_cases hp : p < 1 ∨ 1125899906842623 < p
    · refine ⟨(0, [], 9), tell_fault (by decide), ?_, fun A q w hC => exp18f (b : Int) p 9 A q xs w hC (.inr ⟨rfl, hf, ?_⟩), by unfold efault; rw [if_pos hf, if_pos hp], fun h => absurd h (by decide)⟩
      · obtain ⟨K1, e1⟩ := vf_ev (b : Int) xs
        refine ⟨K1 + 1, fun k hk => ?_⟩
        obtain ⟨k, rfl⟩ : ∃ n, k = n + 1 := ⟨k - 1, by omega⟩
        have f1 := e1 (k + 1) (by omega)
        simp only at f1 ⊢
        unfold dynamometerref9_Expected.f
        rw [f1, Option.bind_some, if_pos hf]
        by_cases h1 : p < 1
        · rw [if_pos h1, dynamometerref9_Expected.j0, if_pos rfl]
        · rw [if_neg h1, decide_eq_true (by omega), dynamometerref9_Expected.j0, if_pos rfl]
      · by_cases h1 : p < 1
        · exact .inl (decide_eq_true h1)
        · exact .inr ⟨decide_eq_false h1, decide_eq_true (by omega)⟩
    · have hp1 : 1 ≤ p := by omega
      have hp2 : p ≤ 1125899906842623 := by omega
      by_cases hn : 1000000 < (sls p xs).length
      · exact ⟨(0, [], 3), tell_fault (by decide), exp_size h2 h8 hx hp1 hp2 hn, fun A q w hC => exp18s b p A q xs w h2 h8 hx hp1 hp2 hn hC, by unfold efault; rw [if_pos hf, if_neg hp, if_pos hn], fun h => absurd h (by decide)⟩
      · obtain ⟨r, hr, hH⟩ := exp_good h2 h8 hx hp1 hp2 (by omega)
        obtain ⟨hm, _, hlen⟩ := many_facts h2 h8 (sls_ok hp1 hx.2) (by omega) hH
        refine ⟨((b : Int), r, 0), ⟨⟨by show _ ≤ (b : Int); omega, by show (b : Int) ≤ _; omega⟩, ⟨show (-9223372036854775808 : Int) ≤ 0 by decide, show (0 : Int) ≤ 9223372036854775807 by decide⟩, hlen, fun s hs' => ?_⟩, hr, fun A q w hC => ?_, by unfold efault; rw [if_pos hf, if_neg hp, if_neg hn], fun _ => ⟨b, r, rfl, h2, h8, hx, hp1, hp2, by omega, rfl, hH⟩⟩
        · have := hm s hs'
          exact ⟨⟨by omega, by omega⟩, by omega, by omega⟩
        · refine (exp18g b p A q xs w h2 h8 hx hp1 hp2 (by omega) hC).mono ?_
          rintro e w' ⟨P, d, r', rfl, hd, hC', hB, hH'⟩
          obtain rfl := hist_unique hH' hH
          exact ⟨P, d, rfl, hd, hC', hB⟩
  · refine ⟨(0, [], fault bits xs), tell_fault (fault_range bits xs), ?_, fun A q w hC => exp18f bits p (fault bits xs) A q xs w hC (.inl ⟨rfl, by simpa using hf⟩), by unfold efault; rw [if_neg hf], fun h => absurd h hf⟩
    obtain ⟨K1, e1⟩ := vf_ev bits xs
    refine ⟨K1, fun k hk => ?_⟩
    have f1 := e1 k hk
    simp only at f1 ⊢
    unfold dynamometerref9_Expected.f
    rw [f1, Option.bind_some, if_neg hf]
end Go.Proofs.YtlkameeaaplonaaDoor

/- Which numbers are buckets. Condition: the number of bits is right. -/
namespace Go.Proofs.YtlkameeaaplonaaDoor.QMeasureExpectedMatchesSpec
open Go.RowKit Go.Proofs.YtlkameeaaplonaaDoorW.PrintWords Go.Proofs.YtlkameeaaplonaaDoorW.PrintLast Go.Proofs.YtlkameeaaplonaaDoorW.PrintMore
set_option linter.unusedVariables false
set_option linter.unusedSimpArgs false
section
variable {b p J : Nat} (P : Par b p J)
include P
theorem formP (n k : Nat) : measure_bucketForm.f (k + 1) (b : Int) (n : Int) = some (decide (n ≤ J * p + (2 * p - 1))) := by
  unfold measure_bucketForm.f
  rw [if_pos (by omega), bucket_top P, Option.bind_some]
  congr 1
  by_cases h : n ≤ J * p + (2 * p - 1)
  · rw [decide_eq_true h]; exact decide_eq_true (by omega)
  · rw [decide_eq_false h]; exact decide_eq_false (by omega)
end
end Go.Proofs.YtlkameeaaplonaaDoor.QMeasureExpectedMatchesSpec

/- What a valid histogram is; Check finds nothing of it. Condition: none. -/
namespace Go.Proofs.YtlkameeaaplonaaDoor
open Go.RowKit Go.Proofs.YtlkameeaaplonaaDoor.QMeasureExpectedMatchesSpec Go.Proofs.YtlkameeaaplonaaDoorW.PrintWords Go.Proofs.YtlkameeaaplonaaDoorW.PrintLast Go.Proofs.YtlkameeaaplonaaDoorW.PrintMore
set_option linter.unusedVariables false
set_option linter.unusedSimpArgs false
/-- The counts ahead of i are right. -/
structure Pre (b : Nat) (l : List S44) (i : Nat) : Prop where
  pos : ∀ j : Nat, j < i → 1 ≤ (rd_T44 l (j : Int)).f1 ∧ (rd_T44 l (j : Int)).f1 ≤ 1125899906842624
  place : ∀ j : Nat, j < i → ∃ a : Nat, (rd_T44 l (j : Int)).f0 = (a : Int) ∧ a ≤ top b ∧ j ≤ a
  rising : ∀ j j' : Nat, j < j' → j' < i → (rd_T44 l (j : Int)).f0 < (rd_T44 l (j' : Int)).f0
  sum : 0 ≤ tot (l.take i) ∧ tot (l.take i) ≤ (i : Int) * 1125899906842624
theorem pre_zero (b : Nat) (l : List S44) : Pre b l 0 := ⟨fun j h => by omega, fun j h => by omega, fun j j' h h' => by omega, by simp [tot]⟩
theorem pre_succ {b : Nat} {l : List S44} {i a : Nat} (h : Pre b l i) (hi : i < l.length) (ha : (rd_T44 l (i : Int)).f0 = (a : Int)) (hat : a ≤ top b) (hr : i = 0 ∨ (rd_T44 l ((i - 1 : Nat) : Int)).f0 < (a : Int))
    (h1 : 1 ≤ (rd_T44 l (i : Int)).f1) (h2 : (rd_T44 l (i : Int)).f1 ≤ 1125899906842624) : Pre b l (i + 1) := by
  refine ⟨fun j hj => ?_, fun j hj => ?_, fun j j' hj hj' => ?_, ?_⟩
  · rcases Nat.lt_or_ge j i with e | e
    · exact h.pos j e
    · obtain rfl : j = i := by omega
      exact ⟨h1, h2⟩
  · rcases Nat.lt_or_ge j i with e | e
    · exact h.place j e
    · obtain rfl : j = i := by omega
      refine ⟨a, ha, hat, ?_⟩
      rcases hr with hr | hr
      · omega
      · by_cases hj0 : j = 0
        · omega
        · obtain ⟨a', e1, _, e3⟩ := h.place (j - 1) (by omega)
          rw [e1] at hr
          omega
  · rcases Nat.lt_or_ge j' i with e | e
    · exact h.rising j j' hj e
    · obtain rfl : j' = i := by omega
      rcases hr with hr | hr
      · omega
      · rw [ha]
        rcases Nat.lt_or_ge j (j' - 1) with e1 | e1
        · have := h.rising j (j' - 1) e1 (by omega)
          omega
        · obtain rfl : j = j' - 1 := by omega
          exact hr
  · have := h.sum
    rw [tot_succ hi]
    omega
theorem pre_valid {b : Nat} {l : List S44} (h2 : 2 ≤ b) (h8 : b ≤ 8) : (Pre b l l.length ∧ tot l ≤ 1125899906842624) ↔ Valid b l := by
  constructor
  · rintro ⟨h, ht⟩
    refine ⟨h2, h8, ?_, fun s hs => ?_, fun s hs => ?_, ht⟩
    · rw [List.pairwise_iff_getElem]
      intro i j hi hj hij
      rw [List.length_map] at hi hj
      have := h.rising i j hij hj
      rw [rd44 hi, rd44 hj] at this
      simpa using this
    · obtain ⟨j, hj, rfl⟩ := List.mem_iff_getElem.1 hs
      have := h.pos j hj
      rw [rd44 hj] at this
      exact this.1
    · obtain ⟨j, hj, rfl⟩ := List.mem_iff_getElem.1 hs
      obtain ⟨a, h1, h2, _⟩ := h.place j hj
      rw [rd44 hj] at h1
      exact ⟨a, h1, h2⟩
  · intro h
    have hle : ∀ s ∈ l, s.f1 ≤ tot l := fun s hs => by
      obtain ⟨j, hj, rfl⟩ := List.mem_iff_getElem.1 hs
      have h1 := tot_take_le l (j + 1) (fun s hs => by have := h.pos s hs; omega)
      have h2 := tot_take_le l j (fun s hs => by have := h.pos s hs; omega)
      rw [tot_succ hj, rd44 hj] at h1
      omega
    have key : ∀ i, i ≤ l.length → Pre b l i := by
      intro i
      induction i with
      | zero => intro _; exact pre_zero b l
      | succ i ih =>
        intro hi
        obtain ⟨a, h1, h2⟩ := h.place _ (rd44_mem (l := l) (i := i) (by omega))
        refine pre_succ (ih (by omega)) (by omega) h1 h2 ?_ (h.pos _ (rd44_mem (by omega))) (by have := hle _ (rd44_mem (l := l) (i := i) (by omega)); have := h.total; omega)
        by_cases h0 : i = 0
        · exact .inl h0
        · right
          rw [← h1, rd44 (by omega), rd44 (by omega)]
          have := List.pairwise_iff_getElem.1 h.rising (i - 1) i (by rw [List.length_map]; omega) (by rw [List.length_map]; omega) (by omega)
          simpa using this
    exact ⟨key _ (Nat.le_refl _), h.total⟩
theorem valid_len {b : Nat} {l : List S44} (h : Valid b l) : l.length ≤ 6656 := by
  obtain ⟨hp, _⟩ := (pre_valid h.b2 h.b8).2 h
  rcases Nat.eq_zero_or_pos l.length with h0 | h0
  · omega
  · obtain ⟨a, _, h2, h3⟩ := hp.place (l.length - 1) (by omega)
    have := top_le b h.b2 h.b8
    omega
theorem valid_bound {b : Nat} {l : List S44} (h : Valid b l) : ∀ s ∈ l, (0 ≤ s.f0 ∧ s.f0 ≤ 6655) ∧ 1 ≤ s.f1 ∧ s.f1 ≤ 1125899906842624 := fun s hs => by
  obtain ⟨a, h1, h2⟩ := h.place s hs
  replace h2 : a ≤ top b := h2
  have := top_le b h.b2 h.b8
  have h3 := h.pos s hs
  obtain ⟨j, hj, rfl⟩ := List.mem_iff_getElem.1 hs
  have h4 := ((pre_valid h.b2 h.b8).2 h).1.pos j hj
  rw [rd44 hj] at h4
  exact ⟨⟨by omega, by omega⟩, h4⟩
theorem tot_step {l : List S44} (h : ∀ s ∈ l, 1 ≤ s.f1) (ht : tot l ≤ 1125899906842624) {i : Nat} (hi : i < l.length) : wrap64 (tot (l.take i) + (rd_T44 l (i : Int)).f1) = tot (l.take (i + 1)) := by
  have h1 := tot_take_le l (i + 1) (fun s hs' => by have := h s hs'; omega)
  rw [← tot_succ hi]
  exact w64 (by omega) (by omega)
section
variable {b : Nat} (h2 : 2 ≤ b) (h8 : b ≤ 8)
include h2 h8
theorem form_ev (x : Int) : Ev (fun k => measure_bucketForm.f k (b : Int) x) (decide (0 ≤ x ∧ x ≤ (top b : Int))) := by
  rcases Int.lt_or_le x 0 with h0 | h0
  · refine ⟨0, fun k _ => ?_⟩
    show measure_bucketForm.f k (b : Int) x = _
    unfold measure_bucketForm.f
    rw [if_neg (by omega), decide_eq_false (by omega)]
  · obtain ⟨n, rfl⟩ := Int.eq_ofNat_of_zero_le h0
    refine ⟨1, fun k hk => ?_⟩
    obtain ⟨k, rfl⟩ : ∃ m, k = m + 1 := ⟨k - 1, by omega⟩
    show measure_bucketForm.f (k + 1) (b : Int) (n : Int) = _
    rw [formP (par_of b h2 h8) n k]
    congr 1
    by_cases h : n ≤ top b
    · rw [decide_eq_true h, decide_eq_true (by omega)]
    · rw [decide_eq_false h, decide_eq_false (by omega)]
/-- Check finds nothing of a valid histogram. -/
theorem mchk_ev (l : List S44) (hV : Valid b l) : Ev (fun k => measure_Check.f k (b : Int) l) 0 := by
  have hlen := valid_len hV
  have hv := (pre_valid h2 h8).2 hV
  have key : ∀ d i : Nat, i + d = l.length → Ev (fun k => measure_Check.l0 k (tot (l.take i)) l (l.length : Int) (i : Int) (b : Int) l) 0 := by
    intro d
    induction d with
    | zero =>
      intro i hi
      have e1 : i = l.length := by omega
      subst e1
      rw [List.take_length]
      have hT := hV.total
      refine Ev.step (f := fun _ => some 0) (fun k => ?_) (Ev.now _)
      rw [measure_Check.l0, if_neg (by omega), if_neg (by omega)]
    | succ d ih =>
      intro i hi
      have hil : i < l.length := by omega
      obtain ⟨a, ha, hat, hia⟩ := hv.1.place i hil
      obtain ⟨K1, e1⟩ := form_ev h2 h8 (rd_T44 l (i : Int)).f0
      obtain ⟨K2, e2⟩ := ih (i + 1) (by omega)
      obtain ⟨p1, p2⟩ := hv.1.pos i hil
      have hi9 : i ≤ 6656 := by omega
      have hdt : decide (0 ≤ (rd_T44 l (i : Int)).f0 ∧ (rd_T44 l (i : Int)).f0 ≤ (top b : Int)) = true := by
        rw [ha]
        generalize top b = T at hat
        exact decide_eq_true (by omega)
      have hprev : i = 0 ∨ ¬ (rd_T44 l (i : Int)).f0 ≤ (rd_T44 l ((i - 1 : Nat) : Int)).f0 := by
        by_cases h0 : i = 0
        · exact .inl h0
        · have := hv.1.rising (i - 1) i (by omega) hil
          exact .inr (by omega)
      refine ⟨K1 + K2 + 2, fun k hk => ?_⟩
      obtain ⟨k, rfl⟩ : ∃ n, k = n + 2 := ⟨k - 2, by omega⟩
      have f1 := e1 (k + 1) (by omega)
      have f2 := e2 k (by omega)
      simp only at f1 f2 ⊢
      rw [hdt] at f1
      clear ih e1 e2 ha hat hdt
      rw [measure_Check.l0, if_pos (by omega), if_pos (by omega), if_pos (by omega), f1, Option.bind_some, if_pos rfl]
      have hj : measure_Check.j1 (k + 1) (tot (l.take i)) l (l.length : Int) (i : Int) false (b : Int) l (rd_T44 l (i : Int)).f0 (rd_T44 l (i : Int)).f1 = some 0 := by
        rw [measure_Check.j1, if_neg (by decide), if_neg (by omega), if_neg (by omega), tot_step hV.pos hV.total hil, add1N i (by omega)]
        exact f2
      by_cases h0 : i = 0
      · rw [if_neg (by omega)]
        exact hj
      · rw [if_pos (by omega), sub1N i (by omega) (by omega), if_pos (by omega), if_pos (by omega), decide_eq_false (by omega)]
        exact hj
  refine Ev.congr (fun k => ?_) (key l.length 0 (by omega))
  unfold measure_Check.f
  rw [mform, decide_eq_true (by omega), Option.bind_some, if_pos rfl]
  rfl
end
end Go.Proofs.YtlkameeaaplonaaDoor

/- The total of a valid histogram, by measure. Condition: none. -/
namespace Go.Proofs.YtlkameeaaplonaaDoor
open Go.RowKit Go.Proofs.YtlkameeaaplonaaDoor.QMeasureExpectedMatchesSpec Go.Proofs.YtlkameeaaplonaaDoorW.PrintWords Go.Proofs.YtlkameeaaplonaaDoorW.PrintLast Go.Proofs.YtlkameeaaplonaaDoorW.PrintMore
set_option linter.unusedVariables false
theorem total_ev {l : List S44} (bits : Int) (h : ∀ s ∈ l, 1 ≤ s.f1) (ht : tot l ≤ 1125899906842624) (hl : l.length ≤ 1000000) : Ev (fun k => measure_total.f k bits l) (tot l) := by
  have key : ∀ (d i : Nat), i + d = l.length → Ev (fun k => measure_total.l0 k (tot (l.take i)) l (l.length : Int) (i : Int)) (tot l) := by
    intro d
    induction d with
    | zero =>
      intro i hi
      refine Ev.step (f := fun _ => some (tot l)) (fun k => ?_) (Ev.now _)
      rw [measure_total.l0, if_neg (by omega), List.take_of_length_le (by omega)]
    | succ d ih =>
      intro i hi
      refine Ev.step (fun k => ?_) (ih (i + 1) (by omega))
      rw [measure_total.l0, if_pos (by omega), if_pos (by omega), if_pos (by omega), tot_step h ht (by omega), add1N i (by omega)]
  exact Ev.congr (fun k => rfl) (key l.length 0 (by omega))
theorem valid_wf {b : Nat} {l : List S44} (h : Valid b l) : ∀ s ∈ l, (Lit.int .i64 s.f0).wf = true ∧ (Lit.int .i64 s.f1).wf = true := fun s hs' => by
  obtain ⟨h1, h2⟩ := valid_bound h s hs'
  exact ⟨WalkArith.wf_i64 (by omega), WalkArith.wf_i64 (by omega)⟩
theorem valid_f0 {b : Nat} {l : List S44} (h : Valid b l) : ∀ s ∈ l, s.f0 ≤ 9223372036854775807 := fun s hs' => by
  obtain ⟨h1, h2⟩ := valid_bound h s hs'
  omega
end Go.Proofs.YtlkameeaaplonaaDoor

/- Minus and Merge, walked. Conditions: as each theorem says. -/
namespace Go.Proofs.YtlkameeaaplonaaDoor
open Go.Shelf Go.RowKit Go.Maps Go.Proofs.YtlkameeaaplonaaDoor.QMeasureExpectedMatchesSpec
open Go.Proofs.YtlkameeaaplonaaDoorW.PrintWords Go.Proofs.YtlkameeaaplonaaDoorW.PrintLast Go.Proofs.YtlkameeaaplonaaDoorW.PrintMore
set_option linter.unusedVariables false
/-- The world at the entry: two boxes and the result. -/
structure In3 (w W0 : World) (b1 b2 : Int) (A A2 : Option Addr) (n c n2 c2 : Nat) : Prop where
  below : Below w.heap.size w W0
  size : W0.heap.size = w.heap.size + 3
  h0 : W0.heap[w.heap.size]? = some (hbx b1 A n c)
  h1 : W0.heap[w.heap.size + 1]? = some (hbx b2 A2 n2 c2)
  h2 : W0.heap[w.heap.size + 2]? = some (hbx 0 none 0 0)
theorem in3 (w : World) (b1 b2 : Int) (A A2 : Option Addr) (n c n2 c2 : Nat) : In3 w (((w.alloc (.cells #[.int .i64 b1, .slice A n c] 25)).alloc (.cells #[.int .i64 b2, .slice A2 n2 c2] 25)).alloc (.cells #[.int .i64 0, .slice none 0 0] 25)) b1 b2 A A2 n c n2 c2 :=
  ⟨(((Below.refl _ w).alloc (Nat.le_refl _) _).alloc (by simp) _).alloc (by simp; omega) _, by simp,
    (Below.heap_alloc _ _ _ (by simp; omega)).trans ((Below.heap_alloc _ _ _ (by simp)).trans (heap_alloc_new w _)),
    (Below.heap_alloc _ _ _ (by simp)).trans (by have := heap_alloc_new (w.alloc (.cells #[.int .i64 b1, .slice A n c] 25)) (.cells #[.int .i64 b2, .slice A2 n2 c2] 25); simpa using this),
    by have := heap_alloc_new ((w.alloc (.cells #[.int .i64 b1, .slice A n c] 25)).alloc (.cells #[.int .i64 b2, .slice A2 n2 c2] 25)) (.cells #[.int .i64 0, .slice none 0 0] 25); simpa using this⟩
abbrev Fr3 (w W0 : World) (b1 b2 : Int) (A A2 : Option Addr) (n c n2 c2 : Nat) (W : World) : Prop := (W.cell? ⟨w.heap.size, 0, none⟩ = some (.int .i64 b1) ∧ W.cell? ⟨w.heap.size, 1, none⟩ = some (.slice A n c)) ∧ (W.cell? ⟨w.heap.size + 1, 0, none⟩ = some (.int .i64 b2) ∧ W.cell? ⟨w.heap.size + 1, 1, none⟩ = some (.slice A2 n2 c2)) ∧ Below W0.heap.size W0 W
theorem In3.fr {w W0 : World} {b1 b2 : Int} {A A2 : Option Addr} {n c n2 c2 : Nat} (h : In3 w W0 b1 b2 A A2 n c n2 c2) {W : World} (hW : Below W0.heap.size W0 W) : Fr3 w W0 b1 b2 A A2 n c n2 c2 W :=
  ⟨bx_cells ((hW.block _ (by have := h.size; omega)).trans h.h0), bx_cells ((hW.block _ (by have := h.size; omega)).trans h.h1), hW⟩
theorem In3.up {w W0 : World} {b1 b2 : Int} {A A2 : Option Addr} {n c n2 c2 : Nat} (h : In3 w W0 b1 b2 A A2 n c n2 c2) {W : World} (hW : Below W0.heap.size W0 W) : Below w.heap.size w W := h.below.trans (Below.mono hW (by have := h.size; omega))
/-- A fault's result. -/
theorem In3.fin {w W0 : World} {b1 b2 : Int} {A A2 : Option Addr} {n c n2 c2 : Nat} (h : In3 w W0 b1 b2 A A2 n c n2 c2) {W : World} (hW : Below W0.heap.size W0 W) :
    ((W.cell? ⟨w.heap.size + 1 + 1, 0, none⟩ = some (.int .i64 0) ∧ W.cell? ⟨w.heap.size + 1 + 1, 1, none⟩ = some (.slice none 0 0)) ∧ W.frozen? ⟨w.heap.size + 1 + 1, 0, none⟩ = false ∧ W.frozen? ⟨w.heap.size + 1 + 1, 1, none⟩ = false) ∧
      (∀ (b : Int) (P : Option Addr) (k d : Nat), ((W.setCell ⟨w.heap.size + 2, 0, none⟩ (.int .i64 b)).setCell ⟨w.heap.size + 2, 1, none⟩ (.slice P k d)).heap[w.heap.size + 2]? = some (hbx b P k d)) ∧
      ∀ x y : Value, Below w.heap.size w ((W.setCell ⟨w.heap.size + 2, 0, none⟩ x).setCell ⟨w.heap.size + 2, 1, none⟩ y) := by
  have e0 := (hW.block _ (by have := h.size; omega)).trans h.h2
  exact ⟨⟨bx_cells e0, bx_free e0⟩, bx_store e0, fun x y => ((h.up hW).setCell (p := ⟨w.heap.size + 2, 0, none⟩) (by simp) _).setCell (p := ⟨w.heap.size + 2, 1, none⟩) (by simp) _⟩
theorem valid_k {b : Nat} {l : List S44} (h : Valid b l) : (∃ k, measure_total.f k (b : Int) l = some (tot l)) ∧ 0 ≤ tot l ∧ tot l ≤ 1125899906842624 ∧ l.length ≤ 6656 :=
  ⟨(total_ev (b : Int) h.pos h.total (by have := valid_len h; omega)).rounds, tot_nonneg l (fun s hs' => by have := h.pos s hs'; omega), h.total, valid_len h⟩
theorem hs_valid {b : Nat} (l : List S44) (h : Valid b l) (y : Int) : 0 ≤ hs l y ∧ hs l y ≤ tot l := ⟨hs_nonneg y l (fun s hs' => by have := h.pos s hs'; omega), hs_le_tot y l (fun s hs' => by have := h.pos s hs'; omega)⟩
theorem hs_v0 {b : Nat} {l : List S44} (h : Valid b l) (k : Nat) (y : Int) : 0 ≤ hs (l.take k) y := hs_nonneg y _ (fun s hs' => by have := h.pos s (List.mem_of_mem_take hs'); omega)
theorem hs_v1 {b : Nat} {l : List S44} (h : Valid b l) (k : Nat) (y : Int) : hs (l.take k) y ≤ tot l := by
  have h1 := hs_le_tot y (l.take k) (fun s hs' => by have := h.pos s (List.mem_of_mem_take hs'); omega)
  have h2 := tot_take_le l k (fun s hs' => by have := h.pos s hs'; omega)
  omega
set_option maxRecDepth 100000 in
set_option maxHeartbeats 4000000 in
theorem merge44g (b : Nat) (A A2 : Option Addr) (c c2 : Nat) (l l2 : List S44) (w : World) (hV : Valid b l) (hV2 : Valid b l2) (hC : Kd.C k44 w A l.length l) (hc : l.length ≤ c) (hC2 : Kd.C k44 w A2 l2.length l2) (hc2 : l2.length ≤ c2)
    (ht : tot l + tot l2 ≤ 1125899906842624) :
    Calls Tryd.prog 44 #[.agg #[.int .i64 (b : Int), .slice A l.length c], .agg #[.int .i64 (b : Int), .slice A2 l2.length c2]] w fun e w' => ∃ (P : Option Addr) (d : Nat) (r : List S44), e = .returned (.tuple #[.agg #[.int .i64 (b : Int), .slice P r.length d], .int .i64 0]) ∧
      Kd.V k44 44 w' w.heap.size (fun k => w.heap.size ≤ k) (.slice P r.length d) r ∧ Below w.heap.size w w' ∧ IsHist (fun y => hs l y + hs l2 y) r := by
  obtain ⟨⟨k1, hk1⟩, t0, t1, hl⟩ := valid_k hV
  obtain ⟨⟨k2, hk2⟩, u0, u1, hl2⟩ := valid_k hV2
  have hwf := valid_wf hV
  have hwf2 := valid_wf hV2
  obtain ⟨W0, hW0⟩ : ∃ W0, ((w.alloc (.cells #[.int .i64 (b : Int), .slice A l.length c] 25)).alloc (.cells #[.int .i64 (b : Int), .slice A2 l2.length c2] 25)).alloc (.cells #[.int .i64 0, .slice none 0 0] 25) = W0 := ⟨_, rfl⟩
  have hI : In3 w W0 b b A A2 l.length c l2.length c2 := by rw [← hW0]; exact in3 w b b A A2 l.length c l2.length c2
  have hCa : ∀ W, Below W0.heap.size W0 W → Kd.C k44 W A l.length l := fun W h => Kd.C_below hC (hI.up h)
  have hCb : ∀ W, Below W0.heap.size W0 W → Kd.C k44 W A2 l2.length l2 := fun W h => Kd.C_below hC2 (hI.up h)
  have hBd := (Below.refl W0.heap.size W0).drew
  have hS0 := hI.fr hBd
  have htA := measure_total.calls k1 (b : Int) A c l (tot l) W0.drew (hCa _ hBd) hc hk1
  have htB := fun w1 (h : Below W0.heap.size W0 w1) => measure_total.calls k2 (b : Int) A2 c2 l2 (tot l2) w1 (hCb _ h) hc2 hk2
  go_enter Tryd.func44, Tryd.ntmps44
  go_wp2
  clear hW0
  go_region_held3 (fun W => Fr3 w W0 b b A A2 l.length c l2.length c2 W) (first | assumption | exact hS0)
    (first | (go_at_call 36; refine (htB w1 hS1.2.2).mono ?_; rintro e w2 ⟨rfl, hBt2⟩; have hS2 := hI.fr (hS1.2.2.trans (Below.mono hBt2 hS1.2.2.size)))
           | (go_at_call 36; refine htA.mono ?_; rintro e w1 ⟨rfl, hBt1⟩; have hS1 := hI.fr (hBd.trans (Below.mono hBt1 hBd.size))))
  obtain ⟨⟨f0, f1⟩, ⟨f2, f3⟩, hB2⟩ := hS2
  have hw : IntKind.i64.wrap (tot l + tot l2) = tot l + tot l2 := by
    rw [i64_w, w64 (by omega) (by omega)]
  have hd : decide (1125899906842624 < tot l + tot l2) = false := decide_eq_false (by omega)
  have htl := tallyOfG (b : Int) A c l w2 (hCa _ hB2) hV.rising (by omega) hwf
  clear htA htB hS1 hS0 hBt1 hBt2
  (try rw [hw])
  go_wp2_with (first
    | (go_at_call 37; refine htl.mono ?_; rintro e w3 ⟨m, D, rfl, hm, hown, hcn, hB3⟩; have hB3' := hB2.trans (Below.mono hB3 hB2.size); obtain ⟨⟨g0, g1⟩, ⟨g2, g3⟩, -⟩ := hI.fr hB3')
    | go_in)
  clear htl f0 f1 f2 f3 g0 g1 g2 hw hd
  have hmW : W0.heap.size ≤ m := Nat.le_trans hB2.size hm
  go_loopw [21] (fun i wr => ∃ (k : Nat) (D : DataW Unit), k ≤ l2.length ∧ i = .int .i64 k ∧ wr.ownsMap Tryd.prog 3 (plainElem Tryd.prog 3) m (l.length + k) D ∧ Cn D (fun y => hs l y + hs (l2.take k) y) (l.length + k) ∧ Below W0.heap.size W0 wr)
    (fun i _ => l2.length - (intOf i).toNat)
  case atStart => exact ⟨0, D, Nat.zero_le _, rfl, hown, hcn.congr (fun y => by simp [hs]), hB3'⟩
  case round =>
    clear hcn hown D
    obtain ⟨k, D, hk, rfl, hown, hcn, hB⟩ := hrel
    have hbl := hown.lt
    by_cases hlt : k < l2.length
    · have hd2 : decide ((k : Int) < (l2.length : Int)) = true := decide_eq_true (by omega)
      obtain ⟨ad, rfl, q0, q1⟩ := at_T44 (hCb _ hB) (k : Int) (by omega) (by omega)
      rw [Int.toNat_natCast] at q0 q1
      have hw0 := hwf2 _ (rd44_mem hlt)
      have hat0 := cn_atKey hcn hown (rd_T44 l2 (k : Int)).f0 hw0.1
      have hnext := hcn.add (rd_T44 l2 (k : Int)).f0 (rd_T44 l2 (k : Int)).f1 _ rfl
      have hnext2 : Cn (D.put (.int .i64 (rd_T44 l2 (k : Int)).f0) (.lit (.int .i64 (hs l (rd_T44 l2 (k : Int)).f0 + hs (l2.take k) (rd_T44 l2 (k : Int)).f0 + (rd_T44 l2 (k : Int)).f1)))) (fun y => hs l y + hs (l2.take (k + 1)) y) (l.length + (k + 1)) :=
        hnext.congr (fun y => by rw [hs_take l2 k hlt]; omega)
      have hkm : l.length + k < maxLen := by
        have : (41000 : Nat) < maxLen := by decide
        omega
      have hz0 := hs_valid l hV (rd_T44 l2 (k : Int)).f0
      have hz1 := hs_v0 hV2 k (rd_T44 l2 (k : Int)).f0
      have hz2 := hs_v1 hV2 k (rd_T44 l2 (k : Int)).f0
      have hsb := valid_bound hV2 _ (rd44_mem hlt)
      have HN := Aside0.mk hnext2
      clear hnext hnext2 hcn
      obtain ⟨cz, hcz⟩ : ∃ cz, hs l (rd_T44 l2 (k : Int)).f0 + hs (l2.take k) (rd_T44 l2 (k : Int)).f0 = cz := ⟨_, rfl⟩
      rw [hcz] at HN
      replace hat0 : D.atKey (.int .i64 (rd_T44 l2 (k : Int)).f0) (.lit (.int .i64 0)) = .lit (.int .i64 cz) := by rw [← hcz]; exact hat0
      have hcb : 0 ≤ cz ∧ cz ≤ 1125899906842624 + 1125899906842624 := by omega
      clear hcz hz0 hz1 hz2
      generalize rd_T44 l2 (k : Int) = s at q0 q1 hw0 HN hat0 hsb
      have hsc : 1 ≤ s.f1 ∧ s.f1 ≤ 1125899906842624 := hsb.2
      clear hsb
      have wfc : (Lit.int .i64 (cz + s.f1)).wf = true := WalkArith.wf_i64 (by omega)
      have hown' := hown.alloc (.cells #[.int .i64 s.f0, .int .i64 s.f1] 44)
      have hB' := hB.alloc hB.size (.cells #[.int .i64 s.f0, .int .i64 s.f1] 44)
      go_wp2_with (first
        | (at_lookup; refine wpList_lookup_own_int _ rfl _ _ 58 rfl 3 3 .i64 law3 Tryd.underlying58 Tryd.underlying3 (zero3 _) m (l.length + k) _ rfl hown' _ _ rfl (keyOf_int_mk Tryd.underlying3 hw0.1) ?_; intro cc hat hwc; obtain rfl : cz = cc := (by rw [hat0] at hat; simpa using hat))
        | (at_mapUpdate; refine wpList_mapUpdate_own _ rfl _ _ _ 58 rfl 3 3 law3 Tryd.underlying58 _ m (l.length + k) _ rfl hown' hkm _ _ _ rfl rfl (keyOf_int_mk Tryd.underlying3 hw0.1) _ [] (plainElem_int Tryd.underlying3 wfc) ?_; intro w1 hown1 hgrow1)
        | go_in)
      have hgr : (wr.alloc (.cells #[.int .i64 s.f0, .int .i64 s.f1] 44)).grownBy w1 (some m) := ⟨hgrow1.os, hgrow1.tape, hgrow1.output, hgrow1.size, hgrow1.block⟩
      exact ⟨⟨k + 1, _, by omega, by simp, hown1, HN.out, hB'.grown hgr (by have := hB.size; simp; omega) (fun j hj => by have := Option.some.inj hj; omega)⟩, by simp [intOf]; omega⟩
    · have hke : k = l2.length := by omega
      subst hke
      rw [List.take_length] at hcn
      obtain ⟨⟨g0, g1⟩, ⟨g2, g3'⟩, -⟩ := hI.fr hB
      have hh := hist35 m _ D (b : Int) wr hown (by have := hcn.size; omega)
      go_wp2_with (first
        | (go_at_call 39; refine hh.mono ?_; rintro e w4 ⟨v4, xs4, rfl, hV4, hB4, hr4, hw4, hm4⟩; have hH := cn_hist hcn hr4 hm4; generalize cnts D xs4 = r4 at hV4 hH; obtain ⟨P4, c4, rfl, hc4, hC4⟩ := ans_of_V hV4; have HF := Aside0.mk (hI.fin (hB.trans (Below.mono hB4 hB.size))); obtain ⟨⟨⟨g0, g1⟩, g2, g3⟩, -⟩ := hI.fin (hB.trans (Below.mono hB4 hB.size)))
        | go_in)
      (try simp only [Exit.inBlock, Exit.then])
      refine bodyPost_ret (results_ct rfl _ _ (w.heap.size + 2) 25 #[.int .i64 (b : Int), .slice P4 r4.length c4] (0, 0) _ rfl (HF.out.2.1 _ _ _ _) Tryd.underlying25 rfl (by kernel_rfl)) rfl ?_
      exact ⟨P4, c4, r4, rfl, V_store2 hV4 (by have := hI.size; have := hB.size; omega) (by have := hI.size; have := hB.size; omega) _ _, HF.out.2.2 _ _, hH⟩
set_option maxRecDepth 100000 in
set_option maxHeartbeats 4000000 in
theorem merge44s (b : Nat) (A A2 : Option Addr) (c c2 : Nat) (l l2 : List S44) (w : World) (hV : Valid b l) (hV2 : Valid b l2) (hC : Kd.C k44 w A l.length l) (hc : l.length ≤ c) (hC2 : Kd.C k44 w A2 l2.length l2) (hc2 : l2.length ≤ c2)
    (ht : 1125899906842624 < tot l + tot l2) :
    AnsV 44 #[.agg #[.int .i64 (b : Int), .slice A l.length c], .agg #[.int .i64 (b : Int), .slice A2 l2.length c2]] w (0, [], 3) := by
  obtain ⟨⟨k1, hk1⟩, t0, t1, hl⟩ := valid_k hV
  obtain ⟨⟨k2, hk2⟩, u0, u1, hl2⟩ := valid_k hV2
  obtain ⟨W0, hW0⟩ : ∃ W0, ((w.alloc (.cells #[.int .i64 (b : Int), .slice A l.length c] 25)).alloc (.cells #[.int .i64 (b : Int), .slice A2 l2.length c2] 25)).alloc (.cells #[.int .i64 0, .slice none 0 0] 25) = W0 := ⟨_, rfl⟩
  have hI : In3 w W0 b b A A2 l.length c l2.length c2 := by rw [← hW0]; exact in3 w b b A A2 l.length c l2.length c2
  have hCa : ∀ W, Below W0.heap.size W0 W → Kd.C k44 W A l.length l := fun W h => Kd.C_below hC (hI.up h)
  have hCb : ∀ W, Below W0.heap.size W0 W → Kd.C k44 W A2 l2.length l2 := fun W h => Kd.C_below hC2 (hI.up h)
  have hBd := (Below.refl W0.heap.size W0).drew
  have hS0 := hI.fr hBd
  have htA := measure_total.calls k1 (b : Int) A c l (tot l) W0.drew (hCa _ hBd) hc hk1
  have htB := fun w1 (h : Below W0.heap.size W0 w1) => measure_total.calls k2 (b : Int) A2 c2 l2 (tot l2) w1 (hCb _ h) hc2 hk2
  go_enter Tryd.func44, Tryd.ntmps44
  go_wp2
  clear hW0
  go_region_held3 (fun W => Fr3 w W0 b b A A2 l.length c l2.length c2 W) (first | assumption | exact hS0)
    (first | (go_at_call 36; refine (htB w1 hS1.2.2).mono ?_; rintro e w2 ⟨rfl, hBt2⟩; have hS2 := hI.fr (hS1.2.2.trans (Below.mono hBt2 hS1.2.2.size)))
           | (go_at_call 36; refine htA.mono ?_; rintro e w1 ⟨rfl, hBt1⟩; have hS1 := hI.fr (hBd.trans (Below.mono hBt1 hBd.size))))
  obtain ⟨⟨f0, f1⟩, ⟨f2, f3⟩, hB2⟩ := hS2
  have hw : IntKind.i64.wrap (tot l + tot l2) = tot l + tot l2 := by
    rw [i64_w, w64 (by omega) (by omega)]
  have hd : decide (1125899906842624 < tot l + tot l2) = true := decide_eq_true (by omega)
  have HF := Aside0.mk (hI.fin hB2)
  obtain ⟨⟨⟨g0, g1⟩, g2, g3⟩, -⟩ := hI.fin hB2
  clear htA htB hS1 hS0 hBt1 hBt2
  (try rw [hw])
  go_wp2
  (try simp only [Exit.inBlock, Exit.then])
  refine bodyPost_ret (results_ct rfl _ _ (w.heap.size + 2) 25 #[.int .i64 0, .slice none 0 0] (0, 0) _ rfl (HF.out.2.1 _ _ _ _) Tryd.underlying25 rfl (by kernel_rfl)) rfl ?_
  exact ⟨none, 0, rfl, Kd.V_nil _ _ _ _ _, HF.out.2.2 _ _⟩
set_option maxRecDepth 100000 in
set_option maxHeartbeats 4000000 in
theorem minus22 (b : Nat) (A A2 : Option Addr) (c c2 k0 : Nat) (l l2 : List S44) (w : World) (hV : Valid b l) (hV2 : Valid b l2) (hC : Kd.C k44 w A l.length l) (hc : l.length ≤ c) (hC2 : Kd.C k44 w A2 l2.length l2) (hc2 : l2.length ≤ c2)
    (hchk : measure_checkBoth.f k0 (b : Int) l (b : Int) l2 = some 0) :
    Calls Tryd.prog 22 #[.agg #[.int .i64 (b : Int), .slice A l.length c], .agg #[.int .i64 (b : Int), .slice A2 l2.length c2]] w fun e w' => ∃ (r : Res) (P : Option Addr) (d : Nat), (e = .returned (.tuple #[.agg #[.int .i64 r.1, .slice P r.2.1.length d], .int .i64 r.2.2]) ∧ r.2.1.length ≤ d ∧
      Kd.C k44 w' P r.2.1.length r.2.1 ∧ Below w.heap.size w w') ∧ ((r = (0, [], 9) ∧ ∃ s ∈ l2, hs l s.f0 < s.f1) ∨ ((∀ s ∈ l2, s.f1 ≤ hs l s.f0) ∧ ∃ q, r = ((b : Int), q, 0) ∧ IsHist (fun y => hs l y - hs l2 y) q)) := by
  obtain ⟨-, t0, t1, hl⟩ := valid_k hV
  obtain ⟨-, u0, u1, hl2⟩ := valid_k hV2
  have hwf := valid_wf hV
  have hwf2 := valid_wf hV2
  obtain ⟨W0, hW0⟩ : ∃ W0, ((w.alloc (.cells #[.int .i64 (b : Int), .slice A l.length c] 25)).alloc (.cells #[.int .i64 (b : Int), .slice A2 l2.length c2] 25)).alloc (.cells #[.int .i64 0, .slice none 0 0] 25) = W0 := ⟨_, rfl⟩
  have hI : In3 w W0 b b A A2 l.length c l2.length c2 := by rw [← hW0]; exact in3 w b b A A2 l.length c l2.length c2
  have hCa : ∀ W, Below W0.heap.size W0 W → Kd.C k44 W A l.length l := fun W h => Kd.C_below hC (hI.up h)
  have hCb : ∀ W, Below W0.heap.size W0 W → Kd.C k44 W A2 l2.length l2 := fun W h => Kd.C_below hC2 (hI.up h)
  have hcb := measure_checkBoth.calls k0 (b : Int) A c l (b : Int) A2 c2 l2 0 W0 (hCa _ (Below.refl _ _)) hc (hCb _ (Below.refl _ _)) hc2 hchk
  obtain ⟨⟨f0, f1⟩, ⟨f2, f3⟩, -⟩ := hI.fr (Below.refl _ _)
  go_enter Tryd.func22, Tryd.ntmps22
  go_wp2_with (first
    | (go_at_call 37; refine (tallyOfG (b : Int) A c l w1 (hCa _ hB1) hV.rising (by omega) hwf).mono ?_; rintro e w3 ⟨m, D, rfl, hm, hown, hcn, hB3⟩; have hB3' := hB1.trans (Below.mono hB3 hB1.size); obtain ⟨⟨g0, g1⟩, ⟨g2, g3⟩, -⟩ := hI.fr hB3')
    | (go_at_call 43; refine hcb.mono ?_; clear hcb f0 f1 f2 f3; rintro e w1 ⟨rfl, hB1⟩; obtain ⟨⟨f0, f1⟩, ⟨f2, f3⟩, -⟩ := hI.fr hB1)
    | go_in)
  clear f0 f1 f2 f3 g0 g1 g2 hW0
  have hmW : W0.heap.size ≤ m := Nat.le_trans hB1.size hm
  go_loopw [22] (fun i wr => ∃ (k : Nat) (D : DataW Unit), k ≤ l2.length ∧ i = .int .i64 k ∧ wr.ownsMap Tryd.prog 3 (plainElem Tryd.prog 3) m (l.length + k) D ∧ Cn D (fun y => hs l y - hs (l2.take k) y) (l.length + k) ∧ (∀ j : Nat, j < k → (rd_T44 l2 (j : Int)).f1 ≤ hs l (rd_T44 l2 (j : Int)).f0) ∧ Below W0.heap.size W0 wr)
    (fun i _ => l2.length - (intOf i).toNat)
  case atStart => exact ⟨0, D, Nat.zero_le _, rfl, hown, hcn.congr (fun y => by simp [hs]), fun j hj => by omega, hB3'⟩
  case round =>
    clear hcn hown D
    obtain ⟨k, D, hk, rfl, hown, hcn, hle, hB⟩ := hrel
    have hbl := hown.lt
    by_cases hlt : k < l2.length
    · have hd2 : decide ((k : Int) < (l2.length : Int)) = true := decide_eq_true (by omega)
      obtain ⟨ad, rfl, q0, q1⟩ := at_T44 (hCb _ hB) (k : Int) (by omega) (by omega)
      rw [Int.toNat_natCast] at q0 q1
      have hin := rd44_mem hlt
      have hw0 := hwf2 _ hin
      have hat0 := cn_atKey hcn hown (rd_T44 l2 (k : Int)).f0 hw0.1
      have hz := hs_ahead hV2.rising k hlt
      have hnext : Cn (D.put (.int .i64 (rd_T44 l2 (k : Int)).f0) (.lit (.int .i64 (hs l (rd_T44 l2 (k : Int)).f0 - (rd_T44 l2 (k : Int)).f1)))) (fun y => hs l y - hs (l2.take (k + 1)) y) (l.length + (k + 1)) :=
        (hcn.add (rd_T44 l2 (k : Int)).f0 (-(rd_T44 l2 (k : Int)).f1) _ (by rw [hz]; omega)).congr (fun y => by rw [hs_take l2 k hlt]; split <;> omega)
      rw [hz, Int.sub_zero] at hat0
      have hkm : l.length + k < maxLen := by
        have : (41000 : Nat) < maxLen := by decide
        omega
      have hz0 := hs_valid l hV (rd_T44 l2 (k : Int)).f0
      have hsb := (valid_bound hV2 _ hin).2
      have hle' : (rd_T44 l2 (k : Int)).f1 ≤ hs l (rd_T44 l2 (k : Int)).f0 → ∀ j : Nat, j < k + 1 → (rd_T44 l2 (j : Int)).f1 ≤ hs l (rd_T44 l2 (j : Int)).f0 := fun h j hj => by
        rcases Nat.lt_or_ge j k with h1 | h1
        · exact hle j h1
        · obtain rfl : j = k := by omega
          exact h
      have hno : hs l (rd_T44 l2 (k : Int)).f0 < (rd_T44 l2 (k : Int)).f1 → ∃ s ∈ l2, hs l s.f0 < s.f1 := fun h => ⟨_, hin, h⟩
      have HN := Aside0.mk hnext
      clear hnext hcn hle hz hin
      have HF := Aside0.mk (hI.fin hB)
      obtain ⟨⟨⟨g0, g1⟩, g2, g3⟩, -⟩ := hI.fin hB
      have HL := Aside0.mk hle'
      have HO := Aside0.mk hno
      clear hle' hno
      obtain ⟨cz, hcz⟩ : ∃ cz, hs l (rd_T44 l2 (k : Int)).f0 = cz := ⟨_, rfl⟩
      rw [hcz] at HN HL HO hat0 hz0
      clear hcz
      generalize rd_T44 l2 (k : Int) = s at q0 q1 hw0 HN HL HO hat0 hsb
      have wfc : (Lit.int .i64 (cz - s.f1)).wf = true := WalkArith.wf_i64 (by omega)
      have hown' := hown.alloc (.cells #[.int .i64 s.f0, .int .i64 s.f1] 44)
      have hB' := hB.alloc hB.size (.cells #[.int .i64 s.f0, .int .i64 s.f1] 44)
      have HF' := Aside0.mk (hI.fin hB')
      obtain ⟨⟨⟨g0', g1'⟩, g2', g3'⟩, -⟩ := hI.fin hB'
      by_cases hf : cz < s.f1
      · have hd3 : decide (cz < s.f1) = true := decide_eq_true hf
        go_wp2_with (first
          | (at_lookup; refine wpList_lookup_own_int _ rfl _ _ 58 rfl 3 3 .i64 law3 Tryd.underlying58 Tryd.underlying3 (zero3 _) m (l.length + k) _ rfl hown' _ _ rfl (keyOf_int_mk Tryd.underlying3 hw0.1) ?_; intro cc hat hwc; obtain rfl : cz = cc := (by rw [hat0] at hat; simpa using hat))
          | go_in)
        (try simp only [Exit.inBlock, Exit.then])
        refine bodyPost_ret (results_ct rfl _ _ (w.heap.size + 2) 25 #[.int .i64 0, .slice none 0 0] (0, 0) _ rfl (HF'.out.2.1 _ _ _ _) Tryd.underlying25 rfl (by kernel_rfl)) rfl ?_
        exact ⟨(0, [], 9), none, 0, ⟨rfl, Nat.le_refl _, C_nil _, HF'.out.2.2 _ _⟩, .inl ⟨rfl, HO.out hf⟩⟩
      · have hd3 : decide (cz < s.f1) = false := decide_eq_false hf
        go_wp2_with (first
          | (at_lookup; refine wpList_lookup_own_int _ rfl _ _ 58 rfl 3 3 .i64 law3 Tryd.underlying58 Tryd.underlying3 (zero3 _) m (l.length + k) _ rfl hown' _ _ rfl (keyOf_int_mk Tryd.underlying3 hw0.1) ?_; intro cc hat hwc; obtain rfl : cz = cc := (by rw [hat0] at hat; simpa using hat))
          | (at_mapUpdate; refine wpList_mapUpdate_own _ rfl _ _ _ 58 rfl 3 3 law3 Tryd.underlying58 _ m (l.length + k) _ rfl hown' hkm _ _ _ rfl rfl (keyOf_int_mk Tryd.underlying3 hw0.1) _ [] (plainElem_int Tryd.underlying3 wfc) ?_; intro w1 hown1 hgrow1)
          | go_in)
        have hgr : (wr.alloc (.cells #[.int .i64 s.f0, .int .i64 s.f1] 44)).grownBy w1 (some m) := ⟨hgrow1.os, hgrow1.tape, hgrow1.output, hgrow1.size, hgrow1.block⟩
        exact ⟨⟨k + 1, _, by omega, by simp, hown1, HN.out, HL.out (by omega), hB'.grown hgr (by have := hB.size; simp; omega) (fun j hj => by have := Option.some.inj hj; omega)⟩, by simp [intOf]; omega⟩
    · have hke : k = l2.length := by omega
      subst hke
      rw [List.take_length] at hcn
      obtain ⟨⟨g0, g1⟩, ⟨g2, g3'⟩, -⟩ := hI.fr hB
      have hh := hist35 m _ D (b : Int) wr hown (by have := hcn.size; omega)
      have HL := Aside0.mk hle
      clear hle
      go_wp2_with (first
        | (go_at_call 39; refine hh.mono ?_; rintro e w4 ⟨v4, xs4, rfl, hV4, hB4, hr4, hw4, hm4⟩; have hH := cn_hist hcn hr4 hm4; generalize cnts D xs4 = r4 at hV4 hH; obtain ⟨P4, c4, rfl, hc4, hC4⟩ := ans_of_V hV4; have HF := Aside0.mk (hI.fin (hB.trans (Below.mono hB4 hB.size))); obtain ⟨⟨⟨g0, g1⟩, g2, g3⟩, -⟩ := hI.fin (hB.trans (Below.mono hB4 hB.size)))
        | go_in)
      (try simp only [Exit.inBlock, Exit.then])
      refine bodyPost_ret (results_ct rfl _ _ (w.heap.size + 2) 25 #[.int .i64 (b : Int), .slice P4 r4.length c4] (0, 0) _ rfl (HF.out.2.1 _ _ _ _) Tryd.underlying25 rfl (by kernel_rfl)) rfl ?_
      exact ⟨((b : Int), r4, 0), P4, c4, ⟨rfl, hc4, V_store hV4 (by have := hI.size; have := hB.size; omega) _ _, HF.out.2.2 _ _⟩, .inr ⟨fun s hs' => by
        obtain ⟨j, hj, rfl⟩ := List.mem_iff_getElem.1 hs'
        have := HL.out j hj
        rwa [rd44 hj] at this, r4, rfl, hH⟩⟩
end Go.Proofs.YtlkameeaaplonaaDoor
