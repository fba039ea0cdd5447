/- The walk of the law MeasureBusyIsTheArea. Condition: the samples lie in memory as they are read. -/
import Derived.Test.YtploonojacdflaaMeasBusy
import Derived.Test.YtploonojacdflaaMeasBusyC
import Derived.Test.YtploonojacdflaaMeasCounts
namespace Go.Proofs.Ytploonojacdflaa.Busy
open Go.Shelf Go.RowKit Go.Maps Go.Proofs.Ytploonojacdflaa Go.Proofs.Ytploonojacdflaa.QMeasureBusyIsTheArea
open Go.Proofs.YtploonojacdflaaW.PrintWords
theorem wrap_zero : wrap64 0 = 0 := by unfold wrap64; omega
theorem wrap_add (x m : Int) : wrap64 (x + 18446744073709551616 * m) = wrap64 x := by unfold wrap64; omega
theorem wrap_is (x : Int) : ∃ q, wrap64 x = x + 18446744073709551616 * q := by
  unfold wrap64
  exact ⟨((x + 9223372036854775808) % 18446744073709551616 - 9223372036854775808 - x) / 18446744073709551616, by omega⟩
theorem wrap_sum (x y : Int) : wrap64 (wrap64 x + y) = wrap64 (x + y) := by
  obtain ⟨q, h⟩ := wrap_is x
  rw [h, show x + 18446744073709551616 * q + y = x + y + 18446744073709551616 * q from by omega, wrap_add]
theorem wrap_mul (x u d : Int) : wrap64 (x + wrap64 (u * wrap64 d)) = wrap64 (x + u * d) := by
  obtain ⟨q, h⟩ := wrap_is d
  obtain ⟨q2, h2⟩ := wrap_is (u * wrap64 d)
  rw [h2, h, Int.mul_add, show u * (18446744073709551616 * q) = 18446744073709551616 * (u * q) from by rw [Int.mul_left_comm]]
  rw [show x + (u * d + 18446744073709551616 * (u * q) + 18446744073709551616 * q2) = x + u * d + 18446744073709551616 * (u * q + q2) from by omega, wrap_add]
set_option maxRecDepth 100000 in
set_option maxHeartbeats 4000000 in
theorem law5 (A : Option Addr) (c : Nat) (l : List S45) (w : World) (hr0 : Kd.C k45 w A l.length l) (hc0 : l.length ≤ c) (hls : ∀ s ∈ l, s.f2.length ≤ 9223372036854775807) :
    Calls Try.prog 5 #[.slice A l.length c] w fun e w' => e = .returned (.bool true) ∧ Below w.heap.size w w' := by
  obtain ⟨kf, r, hchk, hgood⟩ := check_ans l hls
  by_cases hr : r = 0
  · subst hr
    obtain ⟨hn, hb⟩ := hgood rfl
    have hlaw := busy_law l _ rfl
    have hbusy := fun W hW => busy13 kf A c l W hW hc0 hchk hn hb
    have hlen : (outs (net l) (Lib.compact ((times l).mergeSort fun x y => decide (x ≤ y))) 0).length ≤ 40000 := by
      have h1 := outs_length (net l) (Lib.compact ((times l).mergeSort fun x y => decide (x ≤ y))) 0
      have h2 := compact_length ((times l).mergeSort fun x y => decide (x ≤ y))
      rw [List.length_mergeSort, times_length] at h2
      omega
    generalize outs (net l) (Lib.compact ((times l).mergeSort fun x y => decide (x ≤ y))) 0 = rr at hlaw hbusy hlen
    obtain ⟨harea, hlast⟩ := hlaw
    go_enter Try.func5, Try.ntmps5
    go_wp2_with (first
      | (go_at_call 13; refine (hbusy w hr0).mono ?_; rintro e w1 ⟨v1, rfl, hV1, hB1⟩; obtain ⟨A1, c1, rfl⟩ := Kd.V_slice hV1)
      | go_in)
    have hC1 := (Kd.V_reads' hV1).2.2
    have HA := Aside0.mk harea
    have HL := Aside0.mk hlast
    clear harea hlast hbusy hV1 hchk hgood hb
    go_loopw [5, 7] (fun s i wr => ∃ (k : Nat), k ≤ rr.length ∧ i = .int .i64 k ∧ s = .int .i64 (wrap64 (area (rr.take (k + 1)))) ∧ Below w1.heap.size w1 wr) (fun _ i _ => rr.length - (intOf i).toNat)
    case atStart =>
      refine ⟨0, Nat.zero_le _, rfl, ?_, Below.refl _ _⟩
      have e : area (rr.take (0 + 1)) = 0 := by
        cases rr with
        | nil => rfl
        | cons x t => rfl
      rw [e, wrap_zero]
    case round =>
      obtain ⟨k, hk, rfl, rfl, hB⟩ := hrel
      by_cases hlt : k < rr.length
      · have hd : decide ((k : Int) < (rr.length : Int)) = true := decide_eq_true (by omega)
        have hCr := Kd.C_below hC1 hB
        obtain ⟨ad, rfl, q0, q1⟩ := at_T42 hCr (k : Int) (by omega) (by omega)
        rw [Int.toNat_natCast] at q0 q1
        by_cases hlt2 : k + 1 < rr.length
        · have hd2 : decide ((k : Int) + 1 < (rr.length : Int)) = true := decide_eq_true (by omega)
          obtain ⟨ad2, e2, p0, p1⟩ := at_T42 hCr ((k + 1 : Nat) : Int) (by omega) (by omega)
          obtain rfl : ad = ad2 := by injection e2
          rw [Int.toNat_natCast] at p0 p1
          have hts : area (rr.take (k + 2)) = area (rr.take (k + 1)) + (rd_T42 rr (k : Int)).f1 * ((rd_T42 rr ((k + 1 : Nat) : Int)).f0 - (rd_T42 rr (k : Int)).f0) := by
            have e1 : rr.take (k + 1) = rr.take k ++ [rd_T42 rr (k : Int)] := by rw [List.take_succ_eq_append_getElem hlt]; simp [rd_T42, List.getD, List.getElem?_eq_getElem hlt]
            have e2 : rr.take (k + 2) = rr.take k ++ [rd_T42 rr (k : Int), rd_T42 rr ((k + 1 : Nat) : Int)] := by
              rw [List.take_succ_eq_append_getElem hlt2, e1, List.append_assoc]
              simp [rd_T42, List.getD, List.getElem?_eq_getElem hlt2]
            rw [e1, e2]
            exact area_snoc _ _ _
          have HT := Aside0.mk hts
          clear hts
          generalize rd_T42 rr (k : Int) = x at q0 q1 HT
          generalize rd_T42 rr ((k + 1 : Nat) : Int) = y at p0 p1 HT
          generalize area (rr.take (k + 1)) = ar at HT ⊢
          generalize hsm : wrap64 ar = sm
          have HS := Aside0.mk hsm
          clear hsm
          clear e2
          go_wp2
          go_region
          go_wp2
          refine ⟨⟨k + 1, by omega, by simp, ?_, hB.drew⟩, by simp [intOf]; omega⟩
          rw [← HS.out, wrap_sum, wrap_mul, HT.out]
        · have hd2 : decide ((k : Int) + 1 < (rr.length : Int)) = false := decide_eq_false (by omega)
          have hu : (rd_T42 rr (k : Int)).f1 = 0 := by
            have e1 : rr = rr.take k ++ [rd_T42 rr (k : Int)] := by
              have e3 : rr.take (k + 1) = rr := List.take_of_length_le (by omega)
              rw [List.take_succ_eq_append_getElem hlt] at e3
              simpa [rd_T42, List.getD, List.getElem?_eq_getElem hlt] using e3.symm
            have := HL.out
            rw [e1, lastU_snoc] at this
            exact this
          have htk : rr.take (k + 2) = rr.take (k + 1) := by rw [List.take_of_length_le (by omega), List.take_of_length_le (by omega)]
          rw [hu] at q1
          clear hu
          generalize rd_T42 rr (k : Int) = x at q0
          have HT := Aside0.mk htk
          clear htk
          generalize hsm : wrap64 (area (rr.take (k + 1))) = sm
          have HS := Aside0.mk hsm
          clear hsm
          go_wp2
          refine ⟨⟨k + 1, by omega, by simp, ?_, hB⟩, by simp [intOf]; omega⟩
          rw [← HS.out, HT.out]
      · have hke : k = rr.length := by omega
        subst hke
        rw [List.take_of_length_le (show rr.length ≤ rr.length + 1 by omega), HA.out]
        have hBw : Below w.heap.size w wr := hB1.trans (Below.mono hB hB1.size)
        go_wp2
        go_loopw [6, 8] (fun s i w2 => ∃ (k : Nat), k ≤ l.length ∧ i = .int .i64 k ∧ s = .int .i64 (wrap64 (took (l.take k))) ∧ Below w.heap.size w w2) (fun _ i _ => l.length - (intOf i).toNat)
        case atStart =>
          refine ⟨0, Nat.zero_le _, rfl, ?_, hBw⟩
          rw [show took (l.take 0) = 0 from rfl, wrap_zero]
        case round =>
          obtain ⟨k, hk, rfl, rfl, hB2⟩ := hrel
          by_cases hlt : k < l.length
          · have hd : decide ((k : Int) < (l.length : Int)) = true := decide_eq_true (by omega)
            obtain ⟨ad, A2, c2, rfl, q0, q1, _⟩ := at_T45 (Kd.C_below hr0 hB2) (k : Int) (by omega) (by omega)
            have htk : took (l.take (k + 1)) = took (l.take k) + (rd_T45 l (k : Int)).f1 := by
              rw [List.take_succ_eq_append_getElem hlt, took_snoc]
              simp [rd_T45, List.getD, List.getElem?_eq_getElem hlt]
            rw [Int.toNat_natCast] at q0 q1
            have HT := Aside0.mk htk
            clear htk
            generalize rd_T45 l (k : Int) = x at q0 q1 HT
            generalize took (l.take k) = tk at HT ⊢
            generalize hsm : wrap64 tk = sm
            have HS := Aside0.mk hsm
            clear hsm
            generalize hsl : wrap64 (took l) = sl
            have HSl := Aside0.mk hsl
            clear hsl
            go_wp2
            refine ⟨⟨k + 1, by omega, by simp, ?_, hB2⟩, by simp [intOf]; omega⟩
            rw [← HS.out, wrap_sum, HT.out]
          · have hke : k = l.length := by omega
            subst hke
            rw [List.take_length]
            generalize wrap64 (took l) = sl
            go_wp2_with (first
              | (go_at_call 10; refine (counts10 _).mono ?_; rintro e w10 ⟨rfl, hB10⟩)
              | go_in)
            go_ret
            exact ⟨rfl, hB2.trans (Below.mono hB10 hB2.size)⟩
  · have hbusy := fun W hW => busy13f kf A c l r W hW hc0 hchk hr
    have hd : decide (r = 0) = false := decide_eq_false hr
    go_enter Try.func5, Try.ntmps5
    go_wp2_with (first
      | (go_at_call 13; refine (hbusy w hr0).mono ?_; rintro e w1 ⟨rfl, hB1⟩)
      | (go_at_call 10; refine (counts10 _).mono ?_; rintro e w10 ⟨rfl, hB10⟩)
      | go_in)
    go_ret
    exact ⟨rfl, hB1.trans (Below.mono hB10 hB1.size)⟩
end Go.Proofs.Ytploonojacdflaa.Busy
