/- Package load: newLine, stageAt, area, at and before answer as the whole numbers say. Condition: the line passes Check, and the time is at most the greatest one. -/
import Derived.Test.YtjfldeoddjicoaaLLoadB
namespace Go.Proofs.Ytjfldeoddjicoaa.QLoadCountAddsUp
open Go.RowKit Go.Proofs.YtjfldeoddjicoaaW.PrintWords Go.Proofs.YtjfldeoddjicoaaW.PrintLast Go.Proofs.YtjfldeoddjicoaaW.PrintMore
set_option linter.unusedVariables false
set_option linter.unusedSimpArgs false
theorem product2 (a b : Nat) (ha : a < 9223372036854775808) (hb : b < 9223372036854775808) : Ev (fun k => load_product.f k [(a : Int), (b : Int)]) (enc (a * b)) := by
  have h := product_ev [a, b] (by
    intro z hz
    simp only [List.mem_cons, List.not_mem_nil, or_false] at hz
    rcases hz with hz | hz <;> omega) (by simp)
  simp only [List.map_cons, List.map_nil, List.foldl_cons, List.foldl_nil, Nat.one_mul] at h
  exact h
theorem product3 (a b c : Nat) (ha : a < 9223372036854775808) (hb : b < 9223372036854775808) (hc : c < 9223372036854775808) : Ev (fun k => load_product.f k [(a : Int), (b : Int), (c : Int)]) (enc (a * b * c)) := by
  have h := product_ev [a, b, c] (by
    intro z hz
    simp only [List.mem_cons, List.not_mem_nil, or_false] at hz
    rcases hz with hz | hz | hz <;> omega) (by simp)
  simp only [List.map_cons, List.map_nil, List.foldl_cons, List.foldl_nil, Nat.one_mul] at h
  exact h
theorem product4 (a b c d : Nat) (ha : a < 9223372036854775808) (hb : b < 9223372036854775808) (hc : c < 9223372036854775808) (hd : d < 9223372036854775808) : Ev (fun k => load_product.f k [(a : Int), (b : Int), (c : Int), (d : Int)]) (enc (a * b * c * d)) := by
  have h := product_ev [a, b, c, d] (by
    intro z hz
    simp only [List.mem_cons, List.not_mem_nil, or_false] at hz
    rcases hz with hz | hz | hz | hz <;> omega) (by simp)
  simp only [List.map_cons, List.map_nil, List.foldl_cons, List.foldl_nil, Nat.one_mul] at h
  exact h
theorem product_den (F : Nat) (hF : F < 9223372036854775808) : Ev (fun k => load_product.f k [2, (F : Int), 1000000000]) (enc (2000000000 * F)) := by
  have e : 2 * F * 1000000000 = 2000000000 * F := by omega
  rw [← e]
  exact product3 2 F 1000000000 (by decide) hF (by decide)
def bgs (ls : List St) (i : Nat) : List Int := (List.range i).map fun j => ((bg ls j : Nat) : Int)
def ahs (ls : List St) (i : Nat) : List (List Int) := (List.range (i + 1)).map fun j => enc (ah ls j)
theorem bgs_succ (ls : List St) (i : Nat) : bgs ls (i + 1) = bgs ls i ++ [((bg ls i : Nat) : Int)] := by unfold bgs; rw [List.range_succ, List.map_append]; rfl
theorem ahs_succ (ls : List St) (i : Nat) : ahs ls (i + 1) = ahs ls i ++ [enc (ah ls (i + 1))] := by unfold ahs; rw [List.range_succ (n := i + 1), List.map_append]; rfl
theorem bgs_len (ls : List St) (i : Nat) : (bgs ls i).length = i := by unfold bgs; simp
theorem ahs_len (ls : List St) (i : Nat) : (ahs ls i).length = i + 1 := by unfold ahs; simp
theorem rd_bgs (ls : List St) (i j : Nat) (h : j < i) : rd (bgs ls i) (j : Int) = ((bg ls j : Nat) : Int) := by
  rw [rd_nat _ j (by rw [bgs_len]; exact h)]; simp [bgs]
theorem rd_ahs (ls : List St) (i j : Nat) (h : j < i + 1) : rd_L3 (ahs ls i) (j : Int) = enc (ah ls j) := by
  unfold rd_L3 ahs
  rw [Int.toNat_natCast, List.getD_eq_getElem?_getD, List.getElem?_map, List.getElem?_range h]
  rfl
def lineOf (ls : List St) : List S96 := [⟨ls.map toS, bgs ls ls.length, ahs ls ls.length⟩]
theorem sm_small {n : Nat} (h : n < 18446744073709551616 ^ 8) : sm n := sm_of 8 h (by decide)
theorem newLine_l0 (ls : List St) (hg : Good ls) : ∀ (d i : Nat), i + d = ls.length →
    Ev (fun k => load_newLine.l0 k ((bg ls i : Nat) : Int) (ls.map toS) (ls.length : Int) (i : Int) (ls.map toS) (bgs ls i) (ahs ls i)) (lineOf ls) := by
  have hlen := hg.len
  intro d
  induction d with
  | zero =>
    intro i hi
    have hi' : i = ls.length := by omega
    subst hi'
    refine Ev.step (f := fun _ => some _) (fun k => ?_) (Ev.now _)
    simp only [load_newLine.l0]
    rw [if_neg (by omega)]
    rfl
  | succ d ih =>
    intro i hi
    have h1 := ih (i + 1) (by omega)
    have c1 : (i : Int) < (ls.length : Int) := by omega
    have c2 : (0 : Int) ≤ (i : Int) := by omega
    have c3 : i < ls.length := by omega
    have c4 : (i : Int) < ((ls.map toS).length : Int) := by rw [List.length_map]; exact c1
    have c5 : (bgs ls i).length < 17592186044416 := by rw [bgs_len]; omega
    have c6 : (i : Int) < ((ahs ls i).length : Int) := by rw [ahs_len]; omega
    have c7 : (ahs ls i).length < 5864062014805 := by rw [ahs_len]; omega
    have hb := bg_le ls hg.ok (i + 1) (by omega)
    have ha := ah_le ls hg.ok (i + 1) (by omega)
    have ha0 := ah_le ls hg.ok i (by omega)
    obtain ⟨o1, o2, o3, o4⟩ := hg.ok i c3
    have hs := bg_succ ls i c3
    have hsa := ah_succ ls i c3
    have hpr := product2 ((gs ls i).2.1 + (gs ls i).2.2) (gs ls i).1 (by omega) (by omega)
    have hp0 : ((gs ls i).2.1 + (gs ls i).2.2) * (gs ls i).1 ≤ ah ls (i + 1) := by omega
    have hadd := Add_ev (ah ls i) (((gs ls i).2.1 + (gs ls i).2.2) * (gs ls i).1) (sm_small (by omega)) (sm_small (by omega))
    rw [← hsa] at hadd
    have hw3 : wrap64 ((toS (gs ls i)).f1 + (toS (gs ls i)).f2) = (((gs ls i).2.1 + (gs ls i).2.2 : Nat) : Int) := by
      have e : (toS (gs ls i)).f1 + (toS (gs ls i)).f2 = (((gs ls i).2.1 + (gs ls i).2.2 : Nat) : Int) := by simp only [toS]; omega
      rw [e]; exact w64 (by omega) (by omega)
    have HW3 := Aside0.mk hw3
    clear hw3
    have hw : wrap64 ((bg ls i : Nat) + (toS (gs ls i)).f0) = ((bg ls (i + 1) : Nat) : Int) := by
      have e : ((bg ls i : Nat) : Int) + (toS (gs ls i)).f0 = ((bg ls (i + 1) : Nat) : Int) := by rw [hs]; simp only [toS]; omega
      rw [e]; exact w64 (by omega) (by omega)
    have hw2 := w64s i (by omega)
    rw [bgs_succ, ahs_succ] at h1
    refine Ev.step (f := fun k => (load_product.f k [(((gs ls i).2.1 + (gs ls i).2.2 : Nat) : Int), ((gs ls i).1 : Int)]).bind fun t => (nat_Add.f k (enc (ah ls i)) t).bind fun u => load_newLine.l0 k ((bg ls (i + 1) : Nat) : Int) (ls.map toS) (ls.length : Int) ((i + 1 : Nat) : Int) (ls.map toS) (bgs ls i ++ [((bg ls i : Nat) : Int)]) (ahs ls i ++ [u])) (fun k => ?_) (Ev.bind hpr (Ev.bind hadd h1))
    simp only [load_newLine.l0]
    rw [if_pos c1, if_pos c2, if_pos c4, if_pos c5, if_pos c6, rd_toS ls i c3, HW3.out, rd_ahs ls i i (by omega)]
    simp only [if_pos c7, hw, hw2]
    rfl
theorem newLine_ev (ls : List St) (hg : Good ls) : Ev (fun k => load_newLine.f k (ls.map toS)) (lineOf ls) := by
  have := newLine_l0 ls hg ls.length 0 (by omega)
  rw [bg_zero] at this
  have e : ahs ls 0 = [[]] := by unfold ahs; simp [ah_zero, enc_zero]
  rw [e] at this
  refine Ev.congr (fun k => ?_) this
  simp only [load_newLine.f]
  rw [List.length_map]
  rfl
theorem stageAt_l0 (ls : List St) (hg : Good ls) : ∀ (d i x : Nat), i + d + 1 = ls.length → x ≤ 2000000000000 →
    ∃ j y : Nat, Ev (fun k => load_stageAt.l0 k (ls.map toS) (x : Int) (i : Int)) ((j : Int), (y : Int)) ∧ IsPos ls (bg ls i + x) j y := by
  have hlen := hg.len
  intro d
  induction d with
  | zero =>
    intro i x hi hx
    have hw : wrap64 ((ls.length : Int) - 1) = (i : Int) := by rw [w64 (by omega) (by omega)]; omega
    refine ⟨i, x, Ev.step (f := fun _ => some _) (fun k => ?_) (Ev.now _), ⟨by omega, rfl, fun h => by omega⟩⟩
    simp only [load_stageAt.l0]
    rw [List.length_map, hw, if_neg (by omega)]
  | succ d ih =>
    intro i x hi hx
    have c0 : (i : Int) < (ls.length : Int) - 1 := by omega
    have c2 : (0 : Int) ≤ (i : Int) := by omega
    have c3 : i < ls.length := by omega
    have c1 : (i : Int) < (ls.length : Int) := by omega
    obtain ⟨o1, o2, o3, o4⟩ := hg.ok i c3
    have hs := bg_succ ls i c3
    by_cases h : (gs ls i).1 ≤ x
    · obtain ⟨j, y, h1, h2⟩ := ih (i + 1) (x - (gs ls i).1) (by omega) (by omega)
      have e : bg ls (i + 1) + (x - (gs ls i).1) = bg ls i + x := by omega
      rw [e] at h2
      have e2 : (x : Int) - (toS (gs ls i)).f0 = ((x - (gs ls i).1 : Nat) : Int) := by simp only [toS]; omega
      have c5 : (x : Int) ≥ (toS (gs ls i)).f0 := by simp only [toS]; omega
      refine ⟨j, y, Ev.step (fun k => ?_) h1, h2⟩
      simp only [load_stageAt.l0]
      rw [List.length_map, w64 (n := (ls.length : Int) - 1) (by omega) (by omega), if_pos c0, if_pos c2, if_pos c1, rd_toS ls i c3, if_pos c5, e2, w64 (n := ((x - (gs ls i).1 : Nat) : Int)) (by omega) (by omega), w64s i (by omega)]
    · have c5 : ¬ (x : Int) ≥ (toS (gs ls i)).f0 := by simp only [toS]; omega
      refine ⟨i, x, Ev.step (f := fun _ => some _) (fun k => ?_) (Ev.now _), ⟨c3, rfl, fun _ => by omega⟩⟩
      simp only [load_stageAt.l0]
      rw [List.length_map, w64 (n := (ls.length : Int) - 1) (by omega) (by omega), if_pos c0, if_pos c2, if_pos c1, rd_toS ls i c3, if_neg c5]
theorem stageAt_ev (ls : List St) (hg : Good ls) (t : Nat) (ht : t ≤ 2000000000000) : ∃ j y : Nat, Ev (fun k => load_stageAt.f k (ls.map toS) (t : Int)) ((j : Int), (y : Int)) ∧ IsPos ls t j y := by
  have hp := hg.pos
  obtain ⟨j, y, h1, h2⟩ := stageAt_l0 ls hg (ls.length - 1) 0 t (by omega) ht
  rw [bg_zero, Nat.zero_add] at h2
  exact ⟨j, y, Ev.congr (fun k => rfl) h1, h2⟩
theorem mul_bound {a b A B C : Nat} (h1 : a ≤ A) (h2 : b ≤ B) (h3 : Nat.ble (A * B) C = true) : a * b ≤ C := Nat.le_trans (Nat.mul_le_mul h1 h2) (Nat.le_of_ble_eq_true h3)
theorem ah_bound (ls : List St) (hg : Good ls) (i : Nat) (hi : i ≤ ls.length) : ah ls i ≤ 10000000000000000000000 := by
  have h50 : i ≤ 50 := Nat.le_trans hi hg.len
  exact Nat.le_trans (ah_le ls hg.ok i hi) (mul_bound (A := 50) (B := 200000000000000000000) h50 (Nat.le_refl _) rfl)
theorem nm_le (ls : List St) (i x : Nat) (hi : i < ls.length) (hx : x ≤ (gs ls i).1) : nm ls i x ≤ (gs ls i).1 * ah ls (i + 1) := by
  have h1 := nm_mono ls i hx (Nat.le_refl _)
  rw [nm_full ls i hi] at h1
  exact h1
theorem area_bound (ls : List St) (hg : Good ls) (i x : Nat) (hi : i < ls.length) (hx : x ≤ (gs ls i).1) : nm ls i x ≤ 1000000000000000000000000000000000 ∧ (gs ls i).1 ≤ 100000000000 ∧ ah ls i ≤ 10000000000000000000000 :=
  ⟨Nat.le_trans (nm_le ls i x hi hx) (mul_bound (hg.ok i hi).2.1 (ah_bound ls hg (i + 1) hi) rfl), (hg.ok i hi).2.1, ah_bound ls hg i (Nat.le_of_lt hi)⟩
theorem area_ev (ls : List St) (hg : Good ls) (i x : Nat) (hi : i < ls.length) (hx : x ≤ (gs ls i).1) :
    Ev (fun k => load_line_area.f k (lineOf ls) (i : Int) (x : Int)) (enc (nm ls i x), enc (dn ls i)) := by
  obtain ⟨hb1, hb2, hb3⟩ := area_bound ls hg i x hi hx
  obtain ⟨o1, o2, o3, o4⟩ := hg.ok i hi
  have c0 : (0 : Int) < ((lineOf ls).length : Int) := by simp [lineOf]
  have e96 : rd_T96 (lineOf ls) 0 = ⟨ls.map toS, bgs ls ls.length, ahs ls ls.length⟩ := rfl
  have c1 : (0 : Int) ≤ (i : Int) := by omega
  have c2 : (i : Int) < ((ls.map toS).length : Int) := by rw [List.length_map]; omega
  have c3 : (i : Int) < ((ahs ls ls.length).length : Int) := by rw [ahs_len]; omega
  have hof : nat_Of.f ((gs ls i).1 : Int) = some (enc (gs ls i).1) := Of_eq (by omega)
  have hs1 : sm (ah ls i) := sm_small (by omega)
  have hl1 := enc_len_le 2 (ah ls i) (by omega)
  have hl2 := enc_len_le 1 (gs ls i).1 (by omega)
  have hmul := Mul_ev (ah ls i) (gs ls i).1 (by omega)
  have hp1 := product4 2 (gs ls i).1 (gs ls i).2.1 x (by decide) (by omega) (by omega) (by omega)
  have hp3 : Ev (fun k => load_product.f k [2, ((gs ls i).1 : Int), 1000000000]) (enc (dn ls i)) := product_den (gs ls i).1 (by omega)
  have hA : ah ls i * (gs ls i).1 ≤ 1000000000000000000000000000000000 := mul_bound hb3 hb2 rfl
  have hB : 2 * (gs ls i).1 * (gs ls i).2.1 * x ≤ 20000000000000000000000000000000 := mul_bound (mul_bound (mul_bound (C := 200000000000) (Nat.le_refl 2) hb2 rfl) o3 (C := 200000000000000000000) rfl) (Nat.le_trans hx hb2) rfl
  have hadd := Add_ev (ah ls i * (gs ls i).1) (2 * (gs ls i).1 * (gs ls i).2.1 * x) (sm_small (by omega)) (sm_small (by omega))
  have hS : sm (ah ls i * (gs ls i).1 + 2 * (gs ls i).1 * (gs ls i).2.1 * x) := sm_small (by omega)
  simp only [load_line_area.f, if_pos c0, e96, if_pos c1, if_pos c2, if_pos c3, rd_toS ls i hi, rd_ahs ls ls.length i (by omega)]
  refine Ev.bind (g := fun _ => nat_Of.f ((gs ls i).1 : Int)) (by rw [hof]; exact Ev.now _) ?_
  refine Ev.bind hmul ?_
  refine Ev.bind hp1 ?_
  refine Ev.bind hadd ?_
  have e0 : (toS (gs ls i)).f0 = ((gs ls i).1 : Int) := rfl
  by_cases h : (gs ls i).2.1 ≤ (gs ls i).2.2
  · have c4 : (toS (gs ls i)).f2 ≥ (toS (gs ls i)).f1 := by simp only [toS]; omega
    have hw : wrap64 ((toS (gs ls i)).f2 - (toS (gs ls i)).f1) = (((gs ls i).2.2 - (gs ls i).2.1 : Nat) : Int) := by
      have e : (toS (gs ls i)).f2 - (toS (gs ls i)).f1 = (((gs ls i).2.2 - (gs ls i).2.1 : Nat) : Int) := by simp only [toS]; omega
      rw [e]; exact w64 (by omega) (by omega)
    have hp2 := product3 ((gs ls i).2.2 - (gs ls i).2.1) x x (by omega) (by omega) (by omega)
    have hC : ((gs ls i).2.2 - (gs ls i).2.1) * x * x ≤ 10000000000000000000000000000000 := mul_bound (mul_bound (C := 100000000000000000000) (Nat.le_trans (Nat.sub_le _ _) o4) (Nat.le_trans hx hb2) rfl) (Nat.le_trans hx hb2) rfl
    have hadd2 := Add_ev _ _ hS (sm_small (n := ((gs ls i).2.2 - (gs ls i).2.1) * x * x) (by omega))
    have en : ah ls i * (gs ls i).1 + 2 * (gs ls i).1 * (gs ls i).2.1 * x + ((gs ls i).2.2 - (gs ls i).2.1) * x * x = nm ls i x := by unfold nm num; rw [if_pos h]
    rw [en] at hadd2
    simp only [if_pos c4, hw]
    refine Ev.bind hp2 (Ev.bind hadd2 ?_)
    simp only [e0]
    exact Ev.bind hp3 (Ev.now _)
  · have c4 : ¬ (toS (gs ls i)).f2 ≥ (toS (gs ls i)).f1 := by simp only [toS]; omega
    have hw : wrap64 ((toS (gs ls i)).f1 - (toS (gs ls i)).f2) = (((gs ls i).2.1 - (gs ls i).2.2 : Nat) : Int) := by
      have e : (toS (gs ls i)).f1 - (toS (gs ls i)).f2 = (((gs ls i).2.1 - (gs ls i).2.2 : Nat) : Int) := by simp only [toS]; omega
      rw [e]; exact w64 (by omega) (by omega)
    have hp2 := product3 ((gs ls i).2.1 - (gs ls i).2.2) x x (by omega) (by omega) (by omega)
    have hsub := Sub_ev _ _ (num_fits (A := ah ls i) (t := (gs ls i).2.2) (f := (gs ls i).2.1) hx) hS
    have en : ah ls i * (gs ls i).1 + 2 * (gs ls i).1 * (gs ls i).2.1 * x - ((gs ls i).2.1 - (gs ls i).2.2) * x * x = nm ls i x := by unfold nm num; rw [if_neg h]
    rw [en] at hsub
    simp only [if_neg c4, hw]
    refine Ev.bind hp2 (Ev.bind hsub ?_)
    simp only [e0]
    exact Ev.bind hp3 (Ev.now _)
theorem at_ev (ls : List St) (hg : Good ls) (t : Nat) (ht : t ≤ 2000000000000) : ∃ i x : Nat, IsPos ls t i x ∧ Ev (fun k => load_line_at.f k (lineOf ls) (t : Int)) (enc (nm ls i (min x (gs ls i).1)), enc (dn ls i)) := by
  obtain ⟨i, x, h1, h2⟩ := stageAt_ev ls hg t ht
  have hi := h2.lt
  have ha := area_ev ls hg i (min x (gs ls i).1) hi (Nat.min_le_right _ _)
  have c0 : (0 : Int) < ((lineOf ls).length : Int) := by simp [lineOf]
  have e96 : rd_T96 (lineOf ls) 0 = ⟨ls.map toS, bgs ls ls.length, ahs ls ls.length⟩ := rfl
  have c1 : (0 : Int) ≤ (i : Int) := by omega
  have c2 : (i : Int) < ((ls.map toS).length : Int) := by rw [List.length_map]; omega
  have em : mn (x : Int) (toS (gs ls i)).f0 = ((min x (gs ls i).1 : Nat) : Int) := by
    simp only [toS]
    unfold mn
    split <;> omega
  refine ⟨i, x, h2, ?_⟩
  simp only [load_line_at.f, if_pos c0, e96]
  refine Ev.bind h1 ?_
  simp only [if_pos c1, if_pos c2, rd_toS ls i hi, em]
  exact Ev.bind ha (Ev.now _)
end Go.Proofs.Ytjfldeoddjicoaa.QLoadCountAddsUp
