/- The histogram of values: checkValues, of, Of. -/
import Derived.Test.YtlkameeaaplonaaDoorMeasHist
import Derived.Maps.OwnSet
import Derived.Deep.LoopGhost
namespace Go.Proofs.YtlkameeaaplonaaDoor
open Go.Shelf Go.RowKit Go.Maps Go.Proofs.YtlkameeaaplonaaDoor.QMeasureMergeIsTogether
open Go.Proofs.YtlkameeaaplonaaDoorW.PrintWords
def bad (v : Int) : Bool := decide (v < 0) || decide (1125899906842623 < v)
theorem pred34 (v : Int) (w : World) : Calls Tryd.prog 51 #[.int .i64 v] w fun e w' => e = .returned (.bool (bad v)) ∧ ∃ q, w' = w.drewN q := by
  by_cases h0 : v < 0
  · have d0 : decide (v < 0) = true := decide_eq_true h0
    go_enter Tryd.func51, Tryd.ntmps51
    go_wp2
    go_ret
    exact ⟨by simp [bad, h0], 0, rfl⟩
  · have d0 : decide (v < 0) = false := decide_eq_false h0
    by_cases h1 : 1125899906842623 < v
    · have d1 : decide (1125899906842623 < v) = true := decide_eq_true h1
      go_enter Tryd.func51, Tryd.ntmps51
      go_wp2
      go_ret
      exact ⟨by simp [bad, h1], 0, rfl⟩
    · have d1 : decide (1125899906842623 < v) = false := decide_eq_false h1
      go_enter Tryd.func51, Tryd.ntmps51
      go_wp2
      go_ret
      exact ⟨by simp [bad, h0, h1], 0, rfl⟩
theorem C_cell {w : World} {A : Option Addr} {n : Nat} {xs : List Int} (h : Kd.C (Kd.int .i64) w A n xs) (k : Nat) (hk : k < n) : ∃ ad, A = some ad ∧ w.cell? (ad.add k) = some (.int .i64 (xs.getD k 0)) := by
  obtain ⟨hl, _, h2⟩ := h
  obtain ⟨ad, rfl, hc⟩ := h2 (by omega)
  obtain ⟨c, hcl, hr, hcell⟩ := hc k (xs.getD k 0) (by rw [List.getElem?_eq_getElem (by omega)]; simp [List.getD, List.getElem?_eq_getElem (show k < xs.length by omega)])
  have hr' : c = [.int .i64 (xs.getD k 0)] := hr
  subst hr'
  exact ⟨ad, rfl, by simpa [Kd.int, Kd.scalar] using hcell 0 _ rfl⟩
theorem idx42 (A : Option Addr) (n c : Nat) (xs : List Int) (w : World) (hC : Kd.C (Kd.int .i64) w A n xs) :
    Calls Tryd.prog 56 #[.slice A n c, .func (.func 51) #[] #[]] w fun e w' => ∃ i : Int, e = .returned (.int .i64 i) ∧ (0 ≤ i ↔ xs.any bad = true) ∧ ∃ q, w' = w.drewN q := by
  have hl := hC.1
  have hbig := hC.2.1
  have eg := enters_of Tryd.func51 (by kernel_rfl) rfl
  go_enter Tryd.func56, Tryd.ntmps56
  go_wp2
  go_loopg [5, 8] n (fun gg _ s8 wr => ∃ kk q : Nat, kk ≤ n ∧ n - kk ≤ gg ∧ s8 = .int .i64 kk ∧ wr = w.drewN q ∧ Aside (∀ j, j < kk → bad (xs.getD j 0) = false))
  case atStart => exact ⟨0, 0, Nat.zero_le _, by omega, rfl, rfl, fun j hj => absurd hj (Nat.not_lt_zero _)⟩
  case round =>
    obtain ⟨kk, q, hkk, hg, rfl, rfl, A_⟩ := hrel
    by_cases hlt : kk < n
    · have hltz : (kk : Int) < (n : Int) := by omega
      obtain ⟨ad, rfl, hcell⟩ := C_cell hC kk hlt
      have hin : xs.getD kk 0 ∈ xs := by simp [List.getD, List.getElem?_eq_getElem (show kk < xs.length by omega)]
      generalize hy : xs.getD kk 0 = y at hcell hin
      have B : Aside (xs.getD kk 0 = y) := hy
      clear hy
      have hcall := fun W => pred34 y W
      cases hq : bad y with
      | true =>
        rw [hq] at hcall
        go_wp2_with (go_at_call 51; refine (hcall _).mono ?_; rintro e w' ⟨rfl, q', rfl⟩)
        go_ret
        refine ⟨_, rfl, ⟨fun _ => by first | exact List.any_eq_true.2 ⟨y, hin, hq⟩ | exact ⟨y, hin, hq⟩, fun _ => by omega⟩, _, rfl⟩
      | false =>
        rw [hq] at hcall
        go_wp2_with (go_at_call 51; refine (hcall _).mono ?_; rintro e w' ⟨rfl, q', rfl⟩)
        go_roundg (n - (kk + 1))
        case measure => omega
        case rel =>
          refine ⟨kk + 1, _, by omega, by omega, by go_num, rfl, (show Aside _ from fun j hj => ?_)⟩
          by_cases e : j = kk
          · subst e
            rw [B.out]; exact hq
          · exact A_.out j (by omega)
    · have hltz : ¬ (kk : Int) < (n : Int) := by omega
      have : kk = n := by omega
      subst this
      go_wp2
      go_ret
      refine ⟨_, rfl, ⟨fun h => absurd h (by decide), fun h => ?_⟩, q, rfl⟩
      obtain ⟨y, hy, hb⟩ : ∃ y, y ∈ xs ∧ bad y = true := by first | exact List.any_eq_true.1 h | exact h
      obtain ⟨j, hj, rfl⟩ := List.getElem_of_mem hy
      have := A_.out j (by omega)
      simp [List.getD, List.getElem?_eq_getElem hj, hb] at this
theorem cont33 (A : Option Addr) (n c : Nat) (xs : List Int) (w : World) (hC : Kd.C (Kd.int .i64) w A n xs) :
    Calls Tryd.prog 50 #[.slice A n c, .func (.func 51) #[] #[]] w fun e w' => e = .returned (.bool (xs.any bad)) ∧ ∃ q, w' = w.drewN q := by
  by_cases hb : xs.any bad = true
  · go_enter Tryd.func50, Tryd.ntmps50
    go_wp2_with (go_at_call 56; refine (idx42 A n c xs w hC).mono ?_; rintro e w' ⟨i, rfl, hi, q, rfl⟩; have hi0 : 0 ≤ i := hi.2 hb; have hd : decide (0 ≤ i) = true := decide_eq_true hi0)
    go_ret
    exact ⟨by rw [hb]; rfl, _, rfl⟩
  · go_enter Tryd.func50, Tryd.ntmps50
    go_wp2_with (go_at_call 56; refine (idx42 A n c xs w hC).mono ?_; rintro e w' ⟨i, rfl, hi, q, rfl⟩; have hi0 : ¬ 0 ≤ i := (fun h => hb (hi.1 h)); have hd : decide (0 ≤ i) = false := decide_eq_false hi0)
    go_ret
    exact ⟨by rw [Bool.eq_false_iff.2 hb]; rfl, _, rfl⟩
def fault (bits : Int) (xs : List Int) : Int := if bits < 2 ∨ 8 < bits then 9 else if 20000 < xs.length then 3 else if xs.any bad then 9 else 0
theorem form_f (bits : Int) : measure_bitsForm.f bits = some (decide (2 ≤ bits) && decide (bits ≤ 8)) := by
  unfold measure_bitsForm.f
  by_cases h : 2 ≤ bits
  · rw [if_pos h]; simp [h]
  · rw [if_neg h]; simp [h]
theorem chk22 (bits : Int) (A : Option Addr) (n c : Nat) (xs : List Int) (w : World) (hC : Kd.C (Kd.int .i64) w A n xs) :
    Calls Tryd.prog 32 #[.int .i64 bits, .slice A n c] w fun e w' => e = .returned (.int .i64 (fault bits xs)) ∧ ∃ q, w' = w.drewN q := by
  have hl := hC.1
  have hf := form_f bits
  by_cases h2 : 2 ≤ bits ∧ bits ≤ 8
  · rw [show (decide (2 ≤ bits) && decide (bits ≤ 8)) = true by simp [h2]] at hf
    have hnb : ¬ (bits < 2 ∨ 8 < bits) := by omega
    by_cases hn : 20000 < n
    · have hd : decide ((20000 : Int) < (n : Int)) = true := decide_eq_true (by omega)
      go_enter Tryd.func32, Tryd.ntmps32
      go_wp2_with (go_at_call 25; refine (measure_bitsForm.calls bits true _ hf).mono ?_; rintro e w' ⟨rfl, ⟨nd, rfl⟩⟩)
      go_ret
      exact ⟨by unfold fault; rw [if_neg hnb, if_pos (by omega)]; rfl, _, rfl⟩
    · have hd : decide ((20000 : Int) < (n : Int)) = false := decide_eq_false (by omega)
      have hcc := fun q => cont33 A n c xs (w.drewN q) hC
      cases hb : xs.any bad with
      | true =>
        rw [hb] at hcc
        go_enter Tryd.func32, Tryd.ntmps32
        go_wp2_with (first
          | (go_at_call 25; refine (measure_bitsForm.calls bits true _ hf).mono ?_; rintro e w' ⟨rfl, ⟨nd, rfl⟩⟩)
          | (go_at_call 50; refine (hcc _).mono ?_; rintro e w' ⟨rfl, q, rfl⟩)
          | go_in)
        go_ret
        exact ⟨by unfold fault; rw [if_neg hnb, if_neg (by omega), if_pos hb]; rfl, _, rfl⟩
      | false =>
        rw [hb] at hcc
        go_enter Tryd.func32, Tryd.ntmps32
        go_wp2_with (first
          | (go_at_call 25; refine (measure_bitsForm.calls bits true _ hf).mono ?_; rintro e w' ⟨rfl, ⟨nd, rfl⟩⟩)
          | (go_at_call 50; refine (hcc _).mono ?_; rintro e w' ⟨rfl, q, rfl⟩)
          | go_in)
        go_ret
        exact ⟨by unfold fault; rw [if_neg hnb, if_neg (by omega), if_neg (by rw [hb]; decide)]; rfl, _, rfl⟩
  · rw [show (decide (2 ≤ bits) && decide (bits ≤ 8)) = false by simp; omega] at hf
    go_enter Tryd.func32, Tryd.ntmps32
    go_wp2_with (go_at_call 25; refine (measure_bitsForm.calls bits false _ hf).mono ?_; rintro e w' ⟨rfl, ⟨nd, rfl⟩⟩)
    go_ret
    exact ⟨by unfold fault; rw [if_pos (by omega)]; rfl, _, rfl⟩
end Go.Proofs.YtlkameeaaplonaaDoor
