/- The walk of the law MeasureQuantileBrackets where Quantile answers. -/
import Derived.Test.YtploonojacdflaaMeqQW
namespace Go.Proofs.Ytploonojacdflaa.Quant
open Go.Shelf Go.RowKit Go.Maps Go.Proofs.Ytploonojacdflaa Go.Proofs.Ytploonojacdflaa.QMeasureQuantileBrackets
open Go.Proofs.YtploonojacdflaaW.PrintWords
theorem countP_take (p : Int → Bool) (xs : List Int) (k : Nat) (h : k < xs.length) : (xs.take (k + 1)).countP p = (xs.take k).countP p + (if p (xs.getD k 0) = true then 1 else 0) := by
  rw [List.take_succ_eq_append_getElem h, List.countP_append, List.countP_singleton]
  simp [List.getD, List.getElem?_eq_getElem h]
set_option maxRecDepth 100000 in
set_option maxHeartbeats 4000000 in
theorem law4g (b : Nat) (h2 : 2 ≤ b) (h8 : b ≤ 8) (num den : Int) (A : Option Addr) (c : Nat) (xs : List Int) (w : World) (hC : Kd.C (Kd.int .i64) w A xs.length xs) (hfl : fault (b : Int) xs = 0) (hn : xs.length ≤ 20000) (hx : ∀ x ∈ xs, 0 ≤ x ∧ x < 1125899906842624)
    (hn0 : xs.length ≠ 0) (d1 : 0 ≤ num) (d2 : num ≤ den) (d3 : 1 ≤ den) (d4 : den ≤ 1000000) :
    Calls Try.prog 4 #[.int .i64 (b : Int), .slice A xs.length c, .int .i64 num, .int .i64 den] w fun e w' => e = .returned (.bool true) ∧ Below w.heap.size w w' := by
  have P := par_of b h2 h8
  have hof := Of11 (b : Int) 1 (bkt b) A xs.length c xs w hC hfl (fun x hx' => by
    obtain ⟨m, rfl⟩ := Int.eq_ofNat_of_zero_le (hx x hx').1
    exact (bkt_spec P m (by have := (hx _ hx').2; omega)).1) (fun x hx' => by
    obtain ⟨m, rfl⟩ := Int.eq_ofNat_of_zero_le (hx x hx').1
    obtain ⟨_, a, ea, ha, _⟩ := bkt_spec P m (by have := (hx _ hx').2; omega)
    rw [ea]
    have := P.hJ
    have h128 := P.p128
    have : (50 - b) * 2 ^ (b - 1) ≤ 50 * 128 := Nat.mul_le_mul (by omega) h128
    exact WalkArith.wf_i64 (by omega))
  obtain ⟨K, hK, hK1, hKn, hK2, hK3⟩ := rank_eq 1 (xs.length : Int) num den ⟨by omega, by omega⟩ d1 d2 d3 d4
  have HX := Aside0.mk hx
  have HF := Aside0.mk hfl
  have HK := Aside0.mk (And.intro hK1 (And.intro hKn (And.intro hK2 hK3)))
  clear hx hfl hK1 hKn hK2 hK3
  go_enter Try.func4, Try.ntmps4
  by_cases h3 : xs.length ≤ 300
  · have hd3 : decide (300 < (xs.length : Int)) = false := decide_eq_false (by omega)
    go_wp2_with (first
      | (go_at_call 11; refine hof.mono ?_; rintro e w1 ⟨v1, l, rfl, hV1, hB1, ht1⟩; obtain ⟨A1, c1, rfl⟩ := Kd.V_slice hV1; obtain ⟨hb_, hl_, hchk, htot, hiff, lo, hi, hlim⟩ := facts b h2 h8 xs hn HX.out l ht1; have hrd := Kd.V_reads' hV1; have hq := quant_good _ _ 1 (b : Int) num den (xs.length : Int) K lo hi A1 c1 l (w1.alloc (.cells #[.int .i64 (b : Int), .slice A1 l.length c1] 32)) (Kd.C_below hrd.2.2 ((Below.refl _ w1).alloc (Nat.le_refl _) _)) hrd.2.1 hchk (decide_eq_false (by omega)) (decide_eq_false (by omega)) (decide_eq_false (by omega)) (decide_eq_false (by omega)) (by have : l.length ≠ 0 := fun e => hn0 (hiff.1 e); simp; intro e; apply this; rw [e]; rfl) htot hK hl_ (fun s hs => ⟨by have := hb_ s hs; omega, (hb_ s hs).2⟩) hlim)
      | (go_at_call 12; refine hq.mono ?_; rintro e w2 ⟨X, Y, rfl, hB2, hTold⟩; have HL := Aside0.mk (bracket b h2 h8 xs HX.out l ht1 num den K HK.out.1 HK.out.2.1 HK.out.2.2.1 HK.out.2.2.2 lo hi hlim X Y hTold); have hs1 := hB1.size; have hb1 := hB1.alloc hs1 (.cells #[.int .i64 (b : Int), .slice A1 l.length c1] 32); have hb2 := hb1.trans (Below.mono hB2 hb1.size); clear hq hTold hlim hof)
      | go_in)
    have hbz : ∀ W, Below w2.heap.size w2 W → Kd.C (Kd.int .i64) W A xs.length xs := fun W h => Kd.C_below hC (hb2.trans (Below.mono h hb2.size))
    clear hB2 hB1 hb1 hs1 hV1 hrd hchk htot
    go_loopw [14] (fun s14 wr => ∃ i : Nat, i ≤ xs.length ∧ s14 = .int .i64 i ∧ Below w2.heap.size w2 wr) (fun s _ => xs.length - (intOf s).toNat)
    case atStart => exact ⟨0, Nat.zero_le _, rfl, Below.refl _ _⟩
    case round =>
      obtain ⟨i, hi_, rfl, hBr⟩ := hrel
      by_cases hlt : i < xs.length
      · have hd : decide ((i : Int) < (xs.length : Int)) = true := decide_eq_true (by omega)
        have hin : xs.getD i 0 ∈ xs := by simp [List.getD, List.getElem?_eq_getElem hlt]
        have HV := Aside0.mk (HL.out.1 _ hin)
        generalize hv : xs.getD i 0 = v at HV
        have HVV := Aside0.mk hv
        clear hv hin
        go_wp2
        go_loopw [15, 16, 17] (fun s15 s16 s17 wr2 => ∃ k : Nat, k ≤ xs.length ∧ s17 = .int .i64 k ∧ s15 = .int .i64 ((xs.take k).countP (fun u => decide (u ≤ v)) : Nat) ∧ s16 = .int .i64 ((xs.take k).countP (fun u => decide (u < v)) : Nat) ∧ Below w2.heap.size w2 wr2) (fun _ _ s _ => xs.length - (intOf s).toNat)
        case atStart => exact ⟨0, Nat.zero_le _, rfl, rfl, rfl, hBr⟩
        case round =>
          obtain ⟨k, hk_, rfl, rfl, rfl, hBk⟩ := hrel
          obtain ⟨ad, rfl, hcell⟩ := C_cell (hbz _ hBk) i hlt
          rw [HVV.out] at hcell
          by_cases hlt2 : k < xs.length
          · have hdk : decide ((k : Int) < (xs.length : Int)) = true := decide_eq_true (by omega)
            obtain ⟨ad2, e2, hcell2⟩ := C_cell (hbz _ hBk) k hlt2
            obtain rfl : ad = ad2 := by injection e2
            have hs1 := countP_take (fun u => decide (u ≤ v)) xs k hlt2
            have hs2 := countP_take (fun u => decide (u < v)) xs k hlt2
            have hl1 := List.countP_le_length (p := fun u => decide (u ≤ v)) (l := xs.take k)
            have hl2 := List.countP_le_length (p := fun u => decide (u < v)) (l := xs.take k)
            rw [List.length_take] at hl1 hl2
            clear e2
            generalize xs.getD k 0 = y at hcell2 hs1 hs2
            have H1 := Aside0.mk hs1
            have H2 := Aside0.mk hs2
            clear hs1 hs2
            generalize (xs.take k).countP (fun u => decide (u ≤ v)) = c1_ at hl1 H1 ⊢
            generalize (xs.take k).countP (fun u => decide (u < v)) = c2_ at hl2 H2 ⊢
            rcases Int.lt_trichotomy y v with hy | hy | hy
            · have da : decide (y ≤ v) = true := decide_eq_true (by omega)
              have db : decide (y < v) = true := decide_eq_true (by omega)
              go_wp2
              go_region
              go_wp2
              go_region
              go_wp2
              refine ⟨⟨k + 1, by omega, by simp, ?_, ?_, hBk.drew.drew⟩, by simp [intOf]; omega⟩
              · rw [H1.out, da]; simp
              · rw [H2.out, db]; simp
            · have da : decide (y ≤ v) = true := decide_eq_true (by omega)
              have db : decide (y < v) = false := decide_eq_false (by omega)
              go_wp2
              go_region
              go_wp2
              go_region
              go_wp2
              refine ⟨⟨k + 1, by omega, by simp, ?_, ?_, hBk.drew.drew⟩, by simp [intOf]; omega⟩
              · rw [H1.out, da]; simp
              · rw [H2.out, db]; simp
            · have da : decide (y ≤ v) = false := decide_eq_false (by omega)
              have db : decide (y < v) = false := decide_eq_false (by omega)
              go_wp2
              go_region
              go_wp2
              go_region
              go_wp2
              refine ⟨⟨k + 1, by omega, by simp, ?_, ?_, hBk.drew.drew⟩, by simp [intOf]; omega⟩
              · rw [H1.out, da]; simp
              · rw [H2.out, db]; simp
          · have hke : k = xs.length := by omega
            subst hke
            rw [List.take_length]
            have hl1 := List.countP_le_length (p := fun u => decide (u ≤ v)) (l := xs)
            have hl2 := List.countP_le_length (p := fun u => decide (u < v)) (l := xs)
            generalize xs.countP (fun u => decide (u ≤ v)) = c1_ at hl1 HV ⊢
            generalize xs.countP (fun u => decide (u < v)) = c2_ at hl2 HV ⊢
            have m1 : 0 ≤ (c1_ : Int) * den ∧ (c1_ : Int) * den ≤ 300000000 := ⟨Int.mul_nonneg (by omega) (by omega), Int.le_trans (Int.mul_le_mul (show (c1_ : Int) ≤ 300 by omega) d4 (by omega) (by omega)) (by decide)⟩
            have m2 : 0 ≤ (c2_ : Int) * den ∧ (c2_ : Int) * den ≤ 300000000 := ⟨Int.mul_nonneg (by omega) (by omega), Int.le_trans (Int.mul_le_mul (show (c2_ : Int) ≤ 300 by omega) d4 (by omega) (by omega)) (by decide)⟩
            have m3 : 0 ≤ (xs.length : Int) * num ∧ (xs.length : Int) * num ≤ 300000000 := ⟨Int.mul_nonneg (by omega) d1, Int.le_trans (Int.mul_le_mul (show (xs.length : Int) ≤ 300 by omega) (show num ≤ 1000000 by omega) d1 (by omega)) (by decide)⟩
            go_wp2
            all_goals first
              | exact ⟨⟨i + 1, by omega, by simp, hBk⟩, by simp [intOf]; omega⟩
              | (exfalso
                 have := HV.out (by omega) (by omega)
                 omega)
      · have hie : i = xs.length := by omega
        subst hie
        obtain ⟨-, x0, y0, xy, hsh⟩ := HL.out
        have hs2 : shr .i64 X (wrap64 ((b : Int) - 1)) = X / 2 ^ (b - 1) := by
          rw [bm1 P]
          unfold shr
          rw [Int.toNat_natCast, Nat.min_eq_left (show b - 1 ≤ IntKind.i64.bits from by show b - 1 ≤ 64; omega)]
        rw [hs2] at hsh
        have hdd : decide (Y - X ≤ X / 2 ^ (b - 1)) = true := decide_eq_true hsh
        clear hs2
        go_wp2_with (first
          | (go_at_call 10; refine (counts10 _).mono ?_; rintro e w3 ⟨rfl, hB3⟩)
          | go_in)
        go_ret
        exact ⟨rfl, hb2.trans (Below.mono (hBr.trans (Below.mono hB3 hBr.size)) hb2.size)⟩
  · have hd3 : decide (300 < (xs.length : Int)) = true := decide_eq_true (by omega)
    go_wp2_with (first
      | (go_at_call 11; refine hof.mono ?_; rintro e w1 ⟨v1, l, rfl, hV1, hB1, ht1⟩; obtain ⟨A1, c1, rfl⟩ := Kd.V_slice hV1; obtain ⟨hb_, hl_, hchk, htot, hiff, lo, hi, hlim⟩ := facts b h2 h8 xs hn HX.out l ht1; have hrd := Kd.V_reads' hV1; have hq := quant_good _ _ 1 (b : Int) num den (xs.length : Int) K lo hi A1 c1 l (w1.alloc (.cells #[.int .i64 (b : Int), .slice A1 l.length c1] 32)) (Kd.C_below hrd.2.2 ((Below.refl _ w1).alloc (Nat.le_refl _) _)) hrd.2.1 hchk (decide_eq_false (by omega)) (decide_eq_false (by omega)) (decide_eq_false (by omega)) (decide_eq_false (by omega)) (by have : l.length ≠ 0 := fun e => hn0 (hiff.1 e); simp; intro e; apply this; rw [e]; rfl) htot hK hl_ (fun s hs => ⟨by have := hb_ s hs; omega, (hb_ s hs).2⟩) hlim)
      | (go_at_call 12; refine hq.mono ?_; rintro e w2 ⟨X, Y, rfl, hB2, hTold⟩; have hs1 := hB1.size; have hb1 := hB1.alloc hs1 (.cells #[.int .i64 (b : Int), .slice A1 l.length c1] 32); have hb2 := hb1.trans (Below.mono hB2 hb1.size); clear hq hTold hlim hof)
      | (go_at_call 10; refine (counts10 _).mono ?_; rintro e w3 ⟨rfl, hB3⟩)
      | go_in)
    go_ret
    exact ⟨rfl, hb2.trans (Below.mono hB3 hb2.size)⟩
/-- The law, for all values. -/
theorem law4 (bits num den : Int) (A : Option Addr) (c : Nat) (xs : List Int) (w : World) (hC : Kd.C (Kd.int .i64) w A xs.length xs) :
    Calls Try.prog 4 #[.int .i64 bits, .slice A xs.length c, .int .i64 num, .int .i64 den] w fun e w' => e = .returned (.bool true) ∧ Below w.heap.size w w' := by
  by_cases hfl : fault bits xs = 0
  · obtain ⟨b, rfl, h2, h8, hn, hx⟩ := fault_zero hfl
    by_cases h1 : num < 0
    · exact law4e b h2 h8 num den 9 A c xs w hC hfl hn hx (by decide) fun l hl => .inl ⟨decide_eq_true h1, rfl⟩
    · by_cases h3 : den < num
      · exact law4e b h2 h8 num den 9 A c xs w hC hfl hn hx (by decide) fun l hl => .inr (.inl ⟨decide_eq_false h1, decide_eq_true h3, rfl⟩)
      · by_cases h4 : den < 1
        · exact law4e b h2 h8 num den 9 A c xs w hC hfl hn hx (by decide) fun l hl => .inr (.inr (.inl ⟨decide_eq_false h1, decide_eq_false h3, decide_eq_true h4, rfl⟩))
        · by_cases h5 : 1000000 < den
          · exact law4e b h2 h8 num den 9 A c xs w hC hfl hn hx (by decide) fun l hl => .inr (.inr (.inr (.inl ⟨decide_eq_false h1, decide_eq_false h3, decide_eq_false h4, decide_eq_true h5, rfl⟩)))
          · by_cases h6 : xs.length = 0
            · exact law4e b h2 h8 num den 13 A c xs w hC hfl hn hx (by decide) fun l hl => .inr (.inr (.inr (.inr ⟨decide_eq_false h1, decide_eq_false h3, decide_eq_false h4, decide_eq_false h5, hl.2 h6, rfl⟩)))
            · exact law4g b h2 h8 num den A c xs w hC hfl hn hx h6 (by omega) (by omega) (by omega) (by omega)
  · exact law4f bits num den A xs.length c xs w hC hfl
end Go.Proofs.Ytploonojacdflaa.Quant
