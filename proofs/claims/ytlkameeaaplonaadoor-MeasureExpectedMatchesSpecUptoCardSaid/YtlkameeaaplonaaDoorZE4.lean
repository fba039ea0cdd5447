/- The texts of the claim, part 4: each says in its own first line what is proved and its conditions. -/
import Derived.Test.YtlkameeaaplonaaDoorZE1
import Derived.Test.YtlkameeaaplonaaDoorZE2
import Derived.Test.YtlkameeaaplonaaDoorZE3
/- Good values, and how many of them stand in a bucket. Condition: none. -/
namespace Go.Proofs.YtlkameeaaplonaaDoor
open Go.RowKit Go.Proofs.YtlkameeaaplonaaDoor.QMeasureExpectedMatchesSpec Go.Proofs.YtlkameeaaplonaaDoorW.PrintWords Go.Proofs.YtlkameeaaplonaaDoorW.PrintLast Go.Proofs.YtlkameeaaplonaaDoorW.PrintMore
set_option linter.unusedVariables false
set_option linter.unusedSimpArgs false
/-- Good values. -/
def Fine (xs : List Int) : Prop := xs.length ≤ 20000 ∧ ∀ x ∈ xs, okV x
theorem bad_iff (x : Int) : bad x = false ↔ okV x := by
  unfold bad
  simp
  omega
theorem fault_zero {bits : Int} {xs : List Int} (h : fault bits xs = 0) : ∃ b : Nat, bits = (b : Int) ∧ 2 ≤ b ∧ b ≤ 8 ∧ Fine xs := by
  unfold fault at h
  split at h
  · cases h
  · split at h
    · cases h
    · split at h
      · cases h
      · rename_i h1 h2 h3
        refine ⟨bits.toNat, by omega, by omega, by omega, by omega, fun x hx => (bad_iff x).1 ?_⟩
        cases hb : bad x with
        | false => rfl
        | true => exact absurd (List.any_eq_true.2 ⟨x, hx, hb⟩) h3
theorem fault_fine {b : Nat} (h2 : 2 ≤ b) (h8 : b ≤ 8) {xs : List Int} (h : Fine xs) : fault (b : Int) xs = 0 := by
  unfold fault
  rw [if_neg (by omega), if_neg (by have := h.1; omega), if_neg]
  intro h3
  obtain ⟨x, hx, hb⟩ := List.any_eq_true.1 h3
  rw [(bad_iff x).2 (h.2 x hx)] at hb
  cases hb
theorem fault_range (bits : Int) (xs : List Int) : 0 ≤ fault bits xs ∧ fault bits xs ≤ 20 := by
  unfold fault
  split
  · decide
  · split
    · decide
    · split <;> decide
theorem rdI {xs : List Int} {i : Nat} (h : i < xs.length) : rd xs (i : Int) = xs[i] := by simp [rd, List.getD, List.getElem?_eq_getElem h]
/-- How many values stand in a bucket. -/
def cntF (b : Nat) (xs : List Int) (y : Int) : Int := ((xs.map (bkt b)).count y : Int)
theorem cntF_snoc (b : Nat) (xs : List Int) (v y : Int) : cntF b (xs ++ [v]) y = cntF b xs y + if bkt b v = y then 1 else 0 := by
  unfold cntF
  rw [List.map_append, List.count_append, List.map_cons, List.map_nil, List.count_singleton]
  by_cases h : bkt b v = y
  · simp [h]
  · simp [h]
theorem cntF_nonneg (b : Nat) (xs : List Int) (y : Int) : 0 ≤ cntF b xs y := by unfold cntF; omega
theorem cntF_le (b : Nat) (xs : List Int) (y : Int) : cntF b xs y ≤ (xs.length : Int) := by
  unfold cntF
  have := List.count_le_length (a := y) (l := xs.map (bkt b))
  rw [List.length_map] at this
  omega
theorem isH_bound {F : Int → Int} {m : Nat} {l : List S44} (h : IsH F m l) {B : Int} (hB : ∀ y, F y ≤ B) : ∀ s ∈ l, 0 < s.f1 ∧ s.f1 ≤ B := fun s hs' => by
  obtain ⟨h1, h2⟩ := (h.hist.mem s).1 hs'
  have := hB s.f0
  omega
end Go.Proofs.YtlkameeaaplonaaDoor

/- What waits behind a value: the values that Expected adds. Condition: the period is above 0. -/
namespace Go.Proofs.YtlkameeaaplonaaDoor
open Go.RowKit Go.Proofs.YtlkameeaaplonaaDoor.QMeasureExpectedMatchesSpec Go.Proofs.YtlkameeaaplonaaDoorW.PrintWords Go.Proofs.YtlkameeaaplonaaDoorW.PrintLast Go.Proofs.YtlkameeaaplonaaDoorW.PrintMore
set_option linter.unusedVariables false
/-- u, u - p, .. as long as they are not below p; at most k of them. -/
def stk (p : Int) : Nat → Int → List Int
  | 0, _ => []
  | k + 1, u => if p ≤ u then u :: stk p k (u - p) else []
def stx (p u : Int) : List Int := stk p u.toNat u
theorem stk_fuel (p : Int) (hp : 1 ≤ p) : ∀ (k k' : Nat) (u : Int), u.toNat ≤ k → u.toNat ≤ k' → stk p k u = stk p k' u
  | 0, 0, _, _, _ => rfl
  | 0, k' + 1, u, h, _ => by
    rw [stk, stk, if_neg (by omega)]
  | k + 1, 0, u, _, h => by
    rw [stk, stk, if_neg (by omega)]
  | k + 1, k' + 1, u, h, h' => by
    rw [stk, stk]
    by_cases hu : p ≤ u
    · rw [if_pos hu, if_pos hu, stk_fuel p hp k k' (u - p) (by omega) (by omega)]
    · rw [if_neg hu, if_neg hu]
theorem stx_pos {p u : Int} (hp : 1 ≤ p) (hu : p ≤ u) : stx p u = u :: stx p (u - p) := by
  unfold stx
  obtain ⟨k, hk⟩ : ∃ k, u.toNat = k + 1 := ⟨u.toNat - 1, by omega⟩
  rw [hk, stk, if_pos hu, stk_fuel p hp k (u - p).toNat (u - p) (by omega) (Nat.le_refl _)]
theorem stx_neg {p u : Int} (hp : 1 ≤ p) (hu : ¬ p ≤ u) : stx p u = [] := by
  unfold stx
  rcases Nat.eq_zero_or_pos u.toNat with h | h
  · rw [h]
    rfl
  · obtain ⟨k, hk⟩ : ∃ k, u.toNat = k + 1 := ⟨u.toNat - 1, by omega⟩
    rw [hk, stk, if_neg hu]
/-- A value and what waits behind it. -/
def sl (p v : Int) : List Int := v :: stx p (v - p)
theorem stk_le (p : Int) (hp : 1 ≤ p) : ∀ (k : Nat) (u : Int), ∀ x ∈ stk p k u, p ≤ x ∧ x ≤ u
  | 0, _, x, h => by simp [stk] at h
  | k + 1, u, x, h => by
    rw [stk] at h
    by_cases hu : p ≤ u
    · rw [if_pos hu] at h
      rcases List.mem_cons.1 h with rfl | h
      · omega
      · have := stk_le p hp k (u - p) x h
        omega
    · rw [if_neg hu] at h
      simp at h
theorem sl_ok {p v : Int} (hp : 1 ≤ p) (hv : okV v) : ∀ x ∈ sl p v, okV x := fun x hx => by
  rcases List.mem_cons.1 hx with rfl | hx
  · exact hv
  · have := stk_le p hp _ _ x hx
    have h1 := hv.2
    exact ⟨by omega, by omega⟩
theorem stk_len (p : Int) (hp : 1 ≤ p) : ∀ (k : Nat) (u : Int), u.toNat ≤ k → 0 ≤ u → ((stk p k u).length : Int) = u / p
  | 0, u, h, h0 => by
    have : u = 0 := by omega
    subst this
    simp [stk]
  | k + 1, u, h, h0 => by
    rw [stk]
    by_cases hu : p ≤ u
    · have ih := stk_len p hp k (u - p) (by omega) (by omega)
      have e : u / p = (u - p) / p + 1 := by
        have := Int.add_mul_ediv_left (u - p) 1 (show p ≠ 0 by omega)
        rw [Int.mul_one, Int.sub_add_cancel] at this
        exact this
      rw [if_pos hu, List.length_cons, e, ← ih]
      omega
    · rw [if_neg hu, Int.ediv_eq_zero_of_lt h0 (by omega)]
      rfl
/-- How many. -/
theorem sl_len {p v : Int} (hp : 1 ≤ p) (hv : okV v) : ((sl p v).length : Int) = mx 1 (v / p) := by
  unfold sl
  rw [List.length_cons]
  have h0 := hv.1
  by_cases hu : p ≤ v
  · have h1 := stk_len p hp (v - p).toNat (v - p) (Nat.le_refl _) (by omega)
    have e : v / p = (v - p) / p + 1 := by
      have := Int.add_mul_ediv_left (v - p) 1 (show p ≠ 0 by omega)
      rw [Int.mul_one, Int.sub_add_cancel] at this
      exact this
    have h2 : 0 ≤ (v - p) / p := Int.ediv_nonneg (by omega) (by omega)
    have h3 : ((stx p (v - p)).length : Int) = (v - p) / p := h1
    unfold mx
    rw [e, ← h3]
    split <;> omega
  · rw [stx_neg hp (by omega), Int.ediv_eq_zero_of_lt h0 (by omega)]
    rfl
/-- All that is added. -/
def sls (p : Int) (xs : List Int) : List Int := xs.flatMap (sl p)
theorem sls_append (p : Int) (a b : List Int) : sls p (a ++ b) = sls p a ++ sls p b := by unfold sls; rw [List.flatMap_append]
theorem sls_take (p : Int) (xs : List Int) (k : Nat) (hk : k < xs.length) : sls p (xs.take (k + 1)) = sls p (xs.take k) ++ sl p (rd xs (k : Int)) := by
  rw [List.take_succ_eq_append_getElem hk, ← rdI hk, sls_append]
  unfold sls
  simp
theorem sls_len_take (p : Int) (xs : List Int) (k : Nat) : (sls p (xs.take k)).length ≤ (sls p xs).length := by
  have h := sls_append p (xs.take k) (xs.drop k)
  rw [List.take_append_drop] at h
  rw [h, List.length_append]
  omega
theorem sls_ok {p : Int} (hp : 1 ≤ p) {xs : List Int} (hx : ∀ x ∈ xs, okV x) : ∀ x ∈ sls p xs, okV x := fun x h => by
  obtain ⟨v, hv, h'⟩ := List.mem_flatMap.1 h
  exact sl_ok hp (hx v hv) x h'
theorem cntF_append (b : Nat) (xs ys : List Int) (y : Int) : cntF b (xs ++ ys) y = cntF b xs y + cntF b ys y := by
  unfold cntF
  rw [List.map_append, List.count_append]
  omega
/-- What is known of the histogram of a million good values. -/
theorem many_facts {b : Nat} (h2 : 2 ≤ b) (h8 : b ≤ 8) {xs : List Int} (hx : ∀ x ∈ xs, okV x) (hn : xs.length ≤ 1000000) {r : List S44} (hH : IsHist (cntF b xs) r) : (∀ s ∈ r, (0 ≤ s.f0 ∧ s.f0 ≤ 6655) ∧ 1 ≤ s.f1 ∧ s.f1 ≤ 1000000) ∧ Valid b r ∧ r.length ≤ 1000000 := by
  have hm : ∀ s ∈ r, ∃ v ∈ xs, bkt b v = s.f0 := fun s hs' => by
    obtain ⟨h3, h4⟩ := (hH.mem s).1 hs'
    have h7 : s.f0 ∈ xs.map (bkt b) := by
      refine List.count_pos_iff.1 ?_
      unfold cntF at h3
      omega
    obtain ⟨v, hv, e⟩ := List.mem_map.1 h7
    exact ⟨v, hv, e⟩
  have h3 : tot r = ((xs.map (bkt b)).length : Int) := hist_tot hH
  rw [List.length_map] at h3
  have hl := tot_ge_len r hH.pos
  refine ⟨fun s hs' => ?_, ⟨h2, h8, hH.rising, fun s hs' => by have := hH.pos s hs'; omega, fun s hs' => ?_, by omega⟩, by omega⟩
  · obtain ⟨h4, h5⟩ := (hH.mem s).1 hs'
    have h6 := cntF_le b xs s.f0
    obtain ⟨v, hv, e⟩ := hm s hs'
    have h8' := (bkt_ok h2 h8 (hx v hv)).2.2
    rw [e] at h8'
    exact ⟨h8', by omega, by omega⟩
  · obtain ⟨v, hv, e⟩ := hm s hs'
    rw [← e]
    exact (bkt_ok h2 h8 (hx v hv)).2.1
end Go.Proofs.YtlkameeaaplonaaDoor

/- Expected, walked. Conditions: as each theorem says. -/
namespace Go.Proofs.YtlkameeaaplonaaDoor
open Go.Shelf Go.RowKit Go.Maps Go.Proofs.YtlkameeaaplonaaDoor.QMeasureExpectedMatchesSpec
open Go.Proofs.YtlkameeaaplonaaDoorW.PrintWords Go.Proofs.YtlkameeaaplonaaDoorW.PrintLast Go.Proofs.YtlkameeaaplonaaDoorW.PrintMore
set_option linter.unusedVariables false
theorem cn_step {b : Nat} {D : DataW Unit} {L : List Int} {u : Int} {n : Nat} (h : Cn D (cntF b L) n) (z : Int) (hz : z = cntF b L (bkt b u) + 1) : Cn (D.put (.int .i64 (bkt b u)) (.lit (.int .i64 z))) (cntF b (L ++ [u])) (n + 1) :=
  (h.add (bkt b u) 1 z hz).congr (fun y => by rw [cntF_snoc])
/-- The world at the entry: the result. -/
structure In0 (w W0 : World) : Prop where
  below : Below w.heap.size w W0
  size : W0.heap.size = w.heap.size + 1
  h1 : W0.heap[w.heap.size]? = some (hbx 0 none 0 0)
theorem in0 (w : World) : In0 w (w.alloc (.cells #[.int .i64 0, .slice none 0 0] 25)) :=
  ⟨(Below.refl _ w).alloc (Nat.le_refl _) _, by simp, heap_alloc_new w _⟩
theorem In0.up {w W0 : World} (h : In0 w W0) {W : World} (hW : Below W0.heap.size W0 W) : Below w.heap.size w W := h.below.trans (Below.mono hW (by have := h.size; omega))
theorem In0.fin {w W0 : World} (h : In0 w W0) {W : World} (hW : Below W0.heap.size W0 W) :
    ((W.cell? ⟨w.heap.size, 0, none⟩ = some (.int .i64 0) ∧ W.cell? ⟨w.heap.size, 1, none⟩ = some (.slice none 0 0)) ∧ W.frozen? ⟨w.heap.size, 0, none⟩ = false ∧ W.frozen? ⟨w.heap.size, 1, none⟩ = false) ∧
      (∀ (b : Int) (P : Option Addr) (k d : Nat), ((W.setCell ⟨w.heap.size, 0, none⟩ (.int .i64 b)).setCell ⟨w.heap.size, 1, none⟩ (.slice P k d)).heap[w.heap.size]? = some (hbx b P k d)) ∧
      ∀ x y : Value, Below w.heap.size w ((W.setCell ⟨w.heap.size, 0, none⟩ x).setCell ⟨w.heap.size, 1, none⟩ y) := by
  have e0 := (hW.block _ (by have := h.size; omega)).trans h.h1
  exact ⟨⟨bx_cells e0, bx_free e0⟩, bx_store e0, fun x y => ((h.up hW).setCell (p := ⟨w.heap.size, 0, none⟩) (by simp) _).setCell (p := ⟨w.heap.size, 1, none⟩) (by simp) _⟩
set_option maxRecDepth 100000 in
set_option maxHeartbeats 8000000 in
theorem exp18g (b : Nat) (p : Int) (A : Option Addr) (q : Nat) (xs : List Int) (w : World) (h2 : 2 ≤ b) (h8 : b ≤ 8) (hx : Fine xs) (hp1 : 1 ≤ p) (hp2 : p ≤ 1125899906842623) (hn : (sls p xs).length ≤ 1000000) (hC : Kd.C (Kd.int .i64) w A xs.length xs) :
    Calls Tryd.prog 18 #[.int .i64 (b : Int), .slice A xs.length q, .int .i64 p] w fun e w' => ∃ (P : Option Addr) (d : Nat) (r : List S44), e = .returned (.tuple #[.agg #[.int .i64 (b : Int), .slice P r.length d], .int .i64 0]) ∧
      r.length ≤ d ∧ Kd.C k44 w' P r.length r ∧ Below w.heap.size w w' ∧ IsHist (cntF b (sls p xs)) r := by
  obtain ⟨W0, hW0⟩ : ∃ W0, w.alloc (.cells #[.int .i64 0, .slice none 0 0] 25) = W0 := ⟨_, rfl⟩
  have hI : In0 w W0 := by rw [← hW0]; exact in0 w
  have hCa : ∀ W, Below W0.heap.size W0 W → Kd.C (Kd.int .i64) W A xs.length xs := fun W h => Kd.C_below hC (hI.up h)
  have hfl := fault_fine h2 h8 hx
  have hchk := chk22 (b : Int) A xs.length q xs W0 (hCa _ (Below.refl _ _))
  rw [hfl] at hchk
  have d1 : decide (p < 1) = false := decide_eq_false (by omega)
  have d2 : decide (1125899906842623 < p) = false := decide_eq_false (by omega)
  have hmm := @run_makeMap Tryd.prog
  have hxl := hx.1
  clear hfl
  go_enter Tryd.func18, Tryd.ntmps18
  go_wp2_with (first
    | (go_at_call 32; refine hchk.mono ?_; clear hchk; rintro e w' ⟨rfl, q1, rfl⟩)
    | go_in)
  clear hW0
  have hB1 : Below W0.heap.size W0 (W0.drewN q1) := pw_below_drewN (Below.refl _ _) q1
  go_loopw [9, 31] (fun n i wr => ∃ k : Nat, k ≤ xs.length ∧ i = .int .i64 k ∧ n = .int .i64 ((sls p (xs.take k)).length : Nat) ∧ wr = W0.drewN q1)
    (fun n i _ => xs.length - (intOf i).toNat)
  case atStart => exact ⟨0, Nat.zero_le _, rfl, by simp [sls], rfl⟩
  case round =>
    obtain ⟨k, hk, rfl, rfl, rfl⟩ := hrel
    by_cases hlt : k < xs.length
    · have hd2 : decide ((k : Int) < (xs.length : Int)) = true := decide_eq_true (by omega)
      obtain ⟨ad, rfl, q0⟩ := C_cell (hCa _ hB1) k hlt
      have hin : rd xs (k : Int) ∈ xs := by rw [rdI hlt]; exact List.getElem_mem _
      have hv := hx.2 _ hin
      have hrd : xs.getD k 0 = rd xs (k : Int) := by simp [rd]
      rw [hrd] at q0
      have hlen := sl_len hp1 hv
      have hst := sls_take p xs k hlt
      have hle := sls_len_take p xs (k + 1)
      rw [hst, List.length_append] at hle
      have hnext : (((sls p (xs.take k)).length + (sl p (rd xs (k : Int))).length : Nat) : Int) = ((sls p (xs.take (k + 1))).length : Int) := by rw [hst, List.length_append]
      have HN := Aside0.mk hnext
      clear hnext hst hrd hin
      generalize (sls p (xs.take k)).length = L at hle HN ⊢
      generalize (sl p (rd xs (k : Int))).length = M at hle HN hlen
      generalize rd xs (k : Int) = v at q0 hv hlen
      have hv0 := hv.1
      have hv1 := hv.2
      have HD : Aside0 (max 1 (v / p) = (M : Int)) := Aside0.mk (by rw [hlen]; generalize v / p = d; unfold mx; split <;> omega)
      clear hlen
      have hd3 : decide (1000000 < (L : Int) + (M : Int)) = false := decide_eq_false (by omega)
      go_wp2_with (first
        | (rw [HD.out])
        | go_in)
      exact ⟨⟨k + 1, by omega, by simp, by rw [← HN.out]; simp, trivial⟩, by simp [intOf]; omega⟩
    · have hke : k = xs.length := by omega
      subst hke
      go_wp2
      have hmW : W0.heap.size ≤ W0.heap.size := Nat.le_refl _
      go_loopw [48] (fun i wr => ∃ (k : Nat) (D : DataW Unit), k ≤ xs.length ∧ i = .int .i64 k ∧ wr.ownsMap Tryd.prog 3 (plainElem Tryd.prog 3) W0.heap.size (sls p (xs.take k)).length D ∧ Cn D (cntF b (sls p (xs.take k))) (sls p (xs.take k)).length ∧ Below W0.heap.size W0 wr)
        (fun i _ => xs.length - (intOf i).toNat)
      case atStart =>
        refine ⟨0, .map [], Nat.zero_le _, rfl, ?_, ?_, hB1.alloc hB1.size _⟩
        · exact World.ownsMap_made (W0.drewN q1) Tryd.prog 3 (plainElem (H := Unit) Tryd.prog 3)
        · exact cn_nil.congr (fun y => by simp [sls, cntF])
      case round =>
        obtain ⟨k, D, hk, rfl, hown, hcn, hB⟩ := hrel
        have hbl := hown.lt
        by_cases hlt : k < xs.length
        · have hd2 : decide ((k : Int) < (xs.length : Int)) = true := decide_eq_true (by omega)
          obtain ⟨ad, rfl, q0⟩ := C_cell (hCa _ hB) k hlt
          have hin : rd xs (k : Int) ∈ xs := by rw [rdI hlt]; exact List.getElem_mem _
          have hv := hx.2 _ hin
          have hrd : xs.getD k 0 = rd xs (k : Int) := by simp [rd]
          rw [hrd] at q0
          have hst := sls_take p xs k hlt
          have hle := sls_len_take p xs (k + 1)
          rw [hst, List.length_append] at hle
          have HST := Aside0.mk hst
          clear hst hrd hin
          generalize hpre : sls p (xs.take k) = pre at hown hcn hle HST
          have HPRE := Aside0.mk hpre
          clear hpre
          generalize rd xs (k : Int) = v at q0 hv hle HST
          have hv0 := hv.1
          have hv1 := hv.2
          have hsl : (sl p v).length = (stx p (v - p)).length + 1 := by unfold sl; rw [List.length_cons]
          have hall : ∀ u : Int, okV u → ∀ (L : List Int) (n : Nat) (D : DataW Unit) (W : World), W.ownsMap Tryd.prog 3 (plainElem Tryd.prog 3) W0.heap.size n D → Cn D (cntF b L) n → n = L.length → n ≤ 1000000 →
              ∃ cz x : Int, (∀ W, Calls Tryd.prog 38 #[.int .i64 (b : Int), .int .i64 u] W fun e w' => e = .returned (.int .i64 x) ∧ Drawn0 W w') ∧ (Lit.int .i64 x).wf = true ∧ D.atKey (.int .i64 x) (.lit (.int .i64 0)) = .lit (.int .i64 cz) ∧
                (0 ≤ cz ∧ cz ≤ 1000000) ∧ (Lit.int .i64 (cz + 1)).wf = true ∧ n < maxLen ∧ Cn (D.put (.int .i64 x) (.lit (.int .i64 (cz + 1)))) (cntF b (L ++ [u])) (n + 1) := fun u hu L n D W hW hL hn' hn'' => by
            obtain ⟨hbk, _, hx0, hx1⟩ := bkt_ok h2 h8 hu
            have hwx : (Lit.int .i64 (bkt b u)).wf = true := WalkArith.wf_i64 (by omega)
            have h3 := cntF_nonneg b L (bkt b u)
            have h4 := cntF_le b L (bkt b u)
            refine ⟨cntF b L (bkt b u), bkt b u, fun W => measure_bucket.calls 1 (b : Int) u (bkt b u) W (hbk 0), hwx, cn_atKey hL hW (bkt b u) hwx, ⟨h3, by omega⟩, WalkArith.wf_i64 (by omega), ?_, cn_step hL _ rfl⟩
            have : (1000000 : Nat) < maxLen := by decide
            omega
          obtain ⟨cz, x, hbc, hwx, hat0, hcz, wfc, hkm, hcn1⟩ := hall v hv pre pre.length D wr hown hcn rfl (by omega)
          have HN := Aside0.mk hcn1
          have HALL := Aside0.mk hall
          clear hcn1 hcn hall
          go_wp2_with (first
            | (go_at_call 38; refine (hbc _).mono ?_; rintro e w' ⟨rfl, ⟨nd, rfl⟩⟩)
            | (at_lookup; refine wpList_lookup_own_int _ rfl _ _ 58 rfl 3 3 .i64 law3 Tryd.underlying58 Tryd.underlying3 (zero3 _) W0.heap.size pre.length _ rfl (show World.ownsMap (wr.drewN nd) _ _ _ _ _ _ from hown) _ _ rfl (keyOf_int_mk Tryd.underlying3 hwx) ?_; intro cc hat hwc; obtain rfl : cz = cc := (by rw [hat0] at hat; simpa using hat))
            | (at_mapUpdate; refine wpList_mapUpdate_own _ rfl _ _ _ 58 rfl 3 3 law3 Tryd.underlying58 _ W0.heap.size pre.length _ rfl (show World.ownsMap (wr.drewN nd) _ _ _ _ _ _ from hown) hkm _ _ _ rfl rfl (keyOf_int_mk Tryd.underlying3 hwx) _ [] (plainElem_int Tryd.underlying3 wfc) ?_; intro w3 hown3 hgrow3)
            | go_in)
          have hB3 : Below W0.heap.size W0 w3 := Below.grown (pw_below_drewN hB nd) hgrow3 hB.size (fun j hj => by have := Option.some.inj hj; omega)
          go_loopw [14] (fun u wr2 => ∃ (z : Int) (L : List Int) (n : Nat) (D : DataW Unit), u = .int .i64 z ∧ L ++ stx p z = pre ++ sl p v ∧ z ≤ v ∧ -p ≤ z ∧ n = L.length ∧ wr2.ownsMap Tryd.prog 3 (plainElem Tryd.prog 3) W0.heap.size n D ∧ Cn D (cntF b L) n ∧ Below W0.heap.size W0 wr2)
            (fun u _ => (intOf u).toNat)
          case atStart =>
            exact ⟨v - p, pre ++ [v], pre.length + 1, _, rfl, by simp [sl], by omega, by omega, by simp, hown3, HN.out, hB3⟩
          case round =>
            obtain ⟨z, L, n, D, rfl, hL, hz1, hz2, hnl, hown, hcn, hB⟩ := hrel
            have hlen : L.length + (stx p z).length = pre.length + (sl p v).length := by have := congrArg List.length hL; rw [List.length_append, List.length_append] at this; exact this
            by_cases hpz : p ≤ z
            · have hd3 : decide (p ≤ z) = true := decide_eq_true hpz
              have hst := stx_pos hp1 hpz
              rw [hst] at hL hlen
              rw [List.length_cons] at hlen
              obtain ⟨cz, x, hbc, hwx, hat0, hcz, wfc, hkm, hcn1⟩ := HALL.out z ⟨by omega, by omega⟩ L n D wr hown hcn hnl (by omega)
              have HN := Aside0.mk hcn1
              have HL := Aside0.mk hL
              clear hcn1 hcn hL hst hlen
              go_wp2_with (first
                | (go_at_call 38; refine (hbc _).mono ?_; rintro e w' ⟨rfl, ⟨nd, rfl⟩⟩)
                | (at_lookup; refine wpList_lookup_own_int _ rfl _ _ 58 rfl 3 3 .i64 law3 Tryd.underlying58 Tryd.underlying3 (zero3 _) W0.heap.size n _ rfl (show World.ownsMap (wr.drewN nd) _ _ _ _ _ _ from hown) _ _ rfl (keyOf_int_mk Tryd.underlying3 hwx) ?_; intro cc hat hwc; obtain rfl : cz = cc := (by rw [hat0] at hat; simpa using hat))
                | (at_mapUpdate; refine wpList_mapUpdate_own _ rfl _ _ _ 58 rfl 3 3 law3 Tryd.underlying58 _ W0.heap.size n _ rfl (show World.ownsMap (wr.drewN nd) _ _ _ _ _ _ from hown) hkm _ _ _ rfl rfl (keyOf_int_mk Tryd.underlying3 hwx) _ [] (plainElem_int Tryd.underlying3 wfc) ?_; intro w3 hown3 hgrow3)
                | go_in)
              exact ⟨⟨z - p, L ++ [z], n + 1, _, rfl, by have := HL.out; simpa using this, by omega, by omega, by rw [hnl]; simp, hown3, HN.out, Below.grown (pw_below_drewN hB nd) hgrow3 hB.size (fun j hj => by have := Option.some.inj hj; omega)⟩, by simp [intOf]; omega⟩
            · have hd3 : decide (p ≤ z) = false := decide_eq_false hpz
              rw [stx_neg hp1 hpz, List.append_nil, ← HST.out] at hL
              subst hL
              subst hnl
              clear hlen
              have HC := Aside0.mk hcn
              clear hcn
              go_wp2
              exact ⟨⟨k + 1, by omega, by simp, D, hown, HC.out⟩, by simp [intOf]; omega⟩
        · have hke : k = xs.length := by omega
          subst hke
          rw [List.take_length] at hcn hown
          have hh := hist35 W0.heap.size _ D (b : Int) wr hown (by have := hcn.size; omega)
          go_wp2_with (first
            | (go_at_call 39; refine hh.mono ?_; rintro e w4 ⟨v4, xs4, rfl, hV4, hB4, hr4, hw4, hm4⟩; have hH := cn_hist hcn hr4 hm4; generalize cnts D xs4 = r4 at hV4 hH; obtain ⟨P4, c4, rfl, hc4, hC4⟩ := ans_of_V hV4; have HF := Aside0.mk (hI.fin (hB.trans (Below.mono hB4 hB.size))); obtain ⟨⟨⟨g0, g1⟩, g2, g3⟩, -⟩ := hI.fin (hB.trans (Below.mono hB4 hB.size)))
            | go_in)
          (try simp only [Exit.inBlock, Exit.then])
          refine bodyPost_ret (results_ct rfl _ _ w.heap.size 25 #[.int .i64 (b : Int), .slice P4 r4.length c4] (0, 0) _ rfl (HF.out.2.1 _ _ _ _) Tryd.underlying25 rfl (by kernel_rfl)) rfl ?_
          exact ⟨P4, c4, r4, rfl, hc4, V_store hV4 (by have := hI.size; have := hB.size; omega) _ _, HF.out.2.2 _ _, hH⟩
end Go.Proofs.YtlkameeaaplonaaDoor

/- Expected with its faults. Conditions: as each theorem says. -/
namespace Go.Proofs.YtlkameeaaplonaaDoor
open Go.Shelf Go.RowKit Go.Maps Go.Proofs.YtlkameeaaplonaaDoor.QMeasureExpectedMatchesSpec
open Go.Proofs.YtlkameeaaplonaaDoorW.PrintWords Go.Proofs.YtlkameeaaplonaaDoorW.PrintLast Go.Proofs.YtlkameeaaplonaaDoorW.PrintMore
set_option linter.unusedVariables false
set_option maxRecDepth 100000 in
set_option maxHeartbeats 4000000 in
theorem exp18f (bits p f : Int) (A : Option Addr) (q : Nat) (xs : List Int) (w : World) (hC : Kd.C (Kd.int .i64) w A xs.length xs)
    (h : (fault bits xs = f ∧ (f != 0) = true) ∨ (f = 9 ∧ fault bits xs = 0 ∧ (decide (p < 1) = true ∨ (decide (p < 1) = false ∧ decide (1125899906842623 < p) = true)))) :
    Ans 18 #[.int .i64 bits, .slice A xs.length q, .int .i64 p] w (0, [], f) := by
  obtain ⟨W0, hW0⟩ : ∃ W0, w.alloc (.cells #[.int .i64 0, .slice none 0 0] 25) = W0 := ⟨_, rfl⟩
  have hI : In0 w W0 := by rw [← hW0]; exact in0 w
  have hchk := chk22 bits A xs.length q xs W0 (Kd.C_below hC hI.below)
  have hB1 : ∀ q1, Below W0.heap.size W0 (W0.drewN q1) := fun q1 => pw_below_drewN (Below.refl _ _) q1
  rcases h with ⟨h1, d0⟩ | ⟨rfl, h1, d0 | ⟨d0, d1⟩⟩
  all_goals
    rw [h1] at hchk
    clear h1
    go_enter Tryd.func18, Tryd.ntmps18
    go_wp2_with (first
      | (go_at_call 32; refine hchk.mono ?_; clear hchk; rintro e w' ⟨rfl, q1, rfl⟩; have HF := Aside0.mk (hI.fin (hB1 q1)); obtain ⟨⟨⟨g0, g1⟩, g2, g3⟩, -⟩ := hI.fin (hB1 q1))
      | go_in)
    (try simp only [Exit.inBlock, Exit.then])
    refine bodyPost_ret (results_ct rfl _ _ w.heap.size 25 #[.int .i64 0, .slice none 0 0] (0, 0) _ rfl (HF.out.2.1 _ _ _ _) Tryd.underlying25 rfl (by kernel_rfl)) rfl ?_
    exact ⟨none, 0, rfl, Nat.le_refl _, C_nil _, HF.out.2.2 _ _⟩
set_option maxRecDepth 100000 in
set_option maxHeartbeats 8000000 in
theorem exp18s (b : Nat) (p : Int) (A : Option Addr) (q : Nat) (xs : List Int) (w : World) (h2 : 2 ≤ b) (h8 : b ≤ 8) (hx : Fine xs) (hp1 : 1 ≤ p) (hp2 : p ≤ 1125899906842623) (hn : 1000000 < (sls p xs).length) (hC : Kd.C (Kd.int .i64) w A xs.length xs) :
    Ans 18 #[.int .i64 (b : Int), .slice A xs.length q, .int .i64 p] w (0, [], 3) := by
  obtain ⟨W0, hW0⟩ : ∃ W0, w.alloc (.cells #[.int .i64 0, .slice none 0 0] 25) = W0 := ⟨_, rfl⟩
  have hI : In0 w W0 := by rw [← hW0]; exact in0 w
  have hCa : ∀ W, Below W0.heap.size W0 W → Kd.C (Kd.int .i64) W A xs.length xs := fun W h => Kd.C_below hC (hI.up h)
  have hfl := fault_fine h2 h8 hx
  have hchk := chk22 (b : Int) A xs.length q xs W0 (hCa _ (Below.refl _ _))
  rw [hfl] at hchk
  have d1 : decide (p < 1) = false := decide_eq_false (by omega)
  have d2 : decide (1125899906842623 < p) = false := decide_eq_false (by omega)
  have hxl := hx.1
  clear hfl
  go_enter Tryd.func18, Tryd.ntmps18
  go_wp2_with (first
    | (go_at_call 32; refine hchk.mono ?_; clear hchk; rintro e w' ⟨rfl, q1, rfl⟩)
    | go_in)
  clear hW0
  have hB1 : Below W0.heap.size W0 (W0.drewN q1) := pw_below_drewN (Below.refl _ _) q1
  have HF := Aside0.mk (hI.fin hB1)
  obtain ⟨⟨⟨g0, g1⟩, g2, g3⟩, -⟩ := hI.fin hB1
  go_loopw [9, 31] (fun n i wr => ∃ k : Nat, k ≤ xs.length ∧ i = .int .i64 k ∧ n = .int .i64 ((sls p (xs.take k)).length : Nat) ∧ (sls p (xs.take k)).length ≤ 1000000 ∧ wr = W0.drewN q1)
    (fun n i _ => xs.length - (intOf i).toNat)
  case atStart => exact ⟨0, Nat.zero_le _, rfl, by simp [sls], by simp [sls], rfl⟩
  case round =>
    obtain ⟨k, hk, rfl, rfl, hlk, rfl⟩ := hrel
    by_cases hlt : k < xs.length
    · have hd2 : decide ((k : Int) < (xs.length : Int)) = true := decide_eq_true (by omega)
      obtain ⟨ad, rfl, q0⟩ := C_cell (hCa _ hB1) k hlt
      have hin : rd xs (k : Int) ∈ xs := by rw [rdI hlt]; exact List.getElem_mem _
      have hv := hx.2 _ hin
      have hrd : xs.getD k 0 = rd xs (k : Int) := by simp [rd]
      rw [hrd] at q0
      have hlen := sl_len hp1 hv
      have hst := sls_take p xs k hlt
      have hnext : (((sls p (xs.take k)).length + (sl p (rd xs (k : Int))).length : Nat) : Int) = ((sls p (xs.take (k + 1))).length : Int) := by rw [hst, List.length_append]
      have HN := Aside0.mk hnext
      clear hnext hst hrd hin
      generalize (sls p (xs.take k)).length = L at hlk HN ⊢
      generalize (sl p (rd xs (k : Int))).length = M at HN hlen
      generalize rd xs (k : Int) = v at q0 hv hlen
      have hv0 := hv.1
      have hv1 := hv.2
      have hMb : (M : Int) ≤ 1125899906842624 := by
        rw [hlen]
        have : v / p ≤ v := Int.ediv_le_self _ hv0
        generalize v / p = d at this
        unfold mx
        split <;> omega
      have HD : Aside0 (max 1 (v / p) = (M : Int)) := Aside0.mk (by rw [hlen]; generalize v / p = d; unfold mx; split <;> omega)
      clear hlen
      by_cases hbig : 1000000 < L + M
      · have hd3 : decide (1000000 < (L : Int) + (M : Int)) = true := decide_eq_true (by omega)
        go_wp2_with (first
          | (rw [HD.out])
          | go_in)
        (try simp only [Exit.inBlock, Exit.then])
        refine bodyPost_ret (results_ct rfl _ _ w.heap.size 25 #[.int .i64 0, .slice none 0 0] (0, 0) _ rfl (HF.out.2.1 _ _ _ _) Tryd.underlying25 rfl (by kernel_rfl)) rfl ?_
        exact ⟨none, 0, rfl, Nat.le_refl _, C_nil _, HF.out.2.2 _ _⟩
      · have hd3 : decide (1000000 < (L : Int) + (M : Int)) = false := decide_eq_false (by omega)
        go_wp2_with (first
          | (rw [HD.out])
          | go_in)
        exact ⟨⟨k + 1, by omega, by simp, by rw [← HN.out]; simp, by have := HN.out; omega, trivial⟩, by simp [intOf]; omega⟩
    · have hke : k = xs.length := by omega
      subst hke
      rw [List.take_length] at hlk
      omega
end Go.Proofs.YtlkameeaaplonaaDoor

/- What Expected of measure hands back. Condition: none. -/
namespace Go.Proofs.YtlkameeaaplonaaDoor
open Go.Shelf Go.RowKit Go.Maps Go.Proofs.YtlkameeaaplonaaDoor.QMeasureExpectedMatchesSpec
open Go.Proofs.YtlkameeaaplonaaDoorW.PrintWords Go.Proofs.YtlkameeaaplonaaDoorW.PrintLast Go.Proofs.YtlkameeaaplonaaDoorW.PrintMore
set_option linter.unusedVariables false
/-- The fault of Expected. -/
def efault (bits : Int) (xs : List Int) (p : Int) : Int := if fault bits xs = 0 then (if p < 1 ∨ 1125899906842623 < p then 9 else if 1000000 < (sls p xs).length then 3 else 0) else fault bits xs
theorem exp_fault (bits p : Int) (xs : List Int) (h : efault bits xs p ≠ 0) (A : Option Addr) (q : Nat) (w : World) (hC : Kd.C (Kd.int .i64) w A xs.length xs) : Ans 18 #[.int .i64 bits, .slice A xs.length q, .int .i64 p] w (0, [], efault bits xs p) := by
  unfold efault at h ⊢
  by_cases hf : fault bits xs = 0
  · obtain ⟨b, rfl, h2, h8, hx⟩ := fault_zero hf
    rw [if_pos hf] at h ⊢
    by_cases hp : p < 1 ∨ 1125899906842623 < p
    · rw [if_pos hp]
      refine exp18f (b : Int) p 9 A q xs w hC (.inr ⟨rfl, hf, ?_⟩)
      by_cases h1 : p < 1
      · exact .inl (decide_eq_true h1)
      · exact .inr ⟨decide_eq_false h1, decide_eq_true (by omega)⟩
    · rw [if_neg hp] at h ⊢
      by_cases hn : 1000000 < (sls p xs).length
      · rw [if_pos hn]
        exact exp18s b p A q xs w h2 h8 hx (by omega) (by omega) hn hC
      · rw [if_neg hn] at h
        exact absurd rfl h
  · rw [if_neg hf]
    exact exp18f bits p (fault bits xs) A q xs w hC (.inl ⟨rfl, by simpa using hf⟩)
theorem exp_zero {bits p : Int} {xs : List Int} (h : efault bits xs p = 0) : ∃ b : Nat, bits = (b : Int) ∧ 2 ≤ b ∧ b ≤ 8 ∧ Fine xs ∧ 1 ≤ p ∧ p ≤ 1125899906842623 ∧ (sls p xs).length ≤ 1000000 := by
  unfold efault at h
  by_cases hf : fault bits xs = 0
  · obtain ⟨b, rfl, h2, h8, hx⟩ := fault_zero hf
    rw [if_pos hf] at h
    by_cases hp : p < 1 ∨ 1125899906842623 < p
    · rw [if_pos hp] at h
      cases h
    · rw [if_neg hp] at h
      by_cases hn : 1000000 < (sls p xs).length
      · rw [if_pos hn] at h
        cases h
      · exact ⟨b, rfl, h2, h8, hx, by omega, by omega, by omega⟩
  · rw [if_neg hf] at h
    exact absurd h hf
/-- The histogram that Expected hands back can be told. -/
theorem exp_tell {b : Nat} {p : Int} {xs : List Int} {r : List S44} (h2 : 2 ≤ b) (h8 : b ≤ 8) (hx : Fine xs) (hp1 : 1 ≤ p) (hn : (sls p xs).length ≤ 1000000) (hH : IsHist (cntF b (sls p xs)) r) : Tell ((b : Int), r, 0) := by
  obtain ⟨hm, _, hlen⟩ := many_facts h2 h8 (sls_ok hp1 hx.2) hn hH
  refine ⟨⟨by show _ ≤ (b : Int); omega, by show (b : Int) ≤ _; omega⟩, ⟨show (-9223372036854775808 : Int) ≤ 0 by decide, show (0 : Int) ≤ 9223372036854775807 by decide⟩, hlen, fun s hs' => ?_⟩
  have := hm s hs'
  exact ⟨⟨by omega, by omega⟩, by omega, by omega⟩
end Go.Proofs.YtlkameeaaplonaaDoor

/- The fault of values, by the reference. Condition: none. -/
namespace Go.Proofs.YtlkameeaaplonaaDoor
open Go.RowKit Go.Proofs.YtlkameeaaplonaaDoor.QMeasureExpectedMatchesSpec Go.Proofs.YtlkameeaaplonaaDoorW.PrintWords Go.Proofs.YtlkameeaaplonaaDoorW.PrintLast Go.Proofs.YtlkameeaaplonaaDoorW.PrintMore
set_option linter.unusedVariables false
set_option linter.unusedSimpArgs false
theorem rform2 (x : Int) : dynamometerref9_fineBits.f x = some (decide (2 ≤ x ∧ x ≤ 8)) := by
  unfold dynamometerref9_fineBits.f
  by_cases h : 2 ≤ x
  · rw [if_pos h]; simp [h]
  · rw [if_neg h]; simp [h]
theorem vf_loop (xs : List Int) (hl : xs.length ≤ 20000) : ∀ d i : Nat, i + d = xs.length → Ev (fun k => dynamometerref9_valuesFault.l0 k xs (i : Int)) (if (xs.drop i).any bad then 9 else 0) := by
  intro d
  induction d with
  | zero =>
    intro i hi
    rw [List.drop_of_length_le (by omega), List.any_nil, if_neg (by decide)]
    refine Ev.step (f := fun _ => some 0) (fun k => ?_) (Ev.now _)
    rw [dynamometerref9_valuesFault.l0, if_neg (by omega)]
  | succ d ih =>
    intro i hi
    have hil : i < xs.length := by omega
    have h := ih (i + 1) (by omega)
    have hr := rdI hil
    rw [List.drop_eq_getElem_cons hil, List.any_cons, ← hr]
    generalize rd xs (i : Int) = x at hr ⊢
    have hx : rd xs (i : Int) = x := by rw [rdI hil, ← hr]
    by_cases h1 : x < 0
    · have hb : bad x = true := by unfold bad; simp; omega
      rw [hb, Bool.true_or, if_pos rfl]
      refine Ev.step (f := fun _ => some 9) (fun k => ?_) (Ev.now _)
      rw [dynamometerref9_valuesFault.l0, if_pos (by omega), if_pos (by omega), hx, if_pos h1]
    · by_cases h2 : x > 1125899906842623
      · have hb : bad x = true := by unfold bad; simp; omega
        rw [hb, Bool.true_or, if_pos rfl]
        refine Ev.step (f := fun _ => some 9) (fun k => ?_) (Ev.now _)
        rw [dynamometerref9_valuesFault.l0, if_pos (by omega), if_pos (by omega), hx, if_neg h1, if_pos h2]
      · have hb : bad x = false := (bad_iff x).2 ⟨by omega, by omega⟩
        rw [hb, Bool.false_or]
        refine Ev.step (fun k => ?_) h
        rw [dynamometerref9_valuesFault.l0, if_pos (by omega), if_pos (by omega), hx, if_neg h1, if_neg h2, add1N i (by omega)]
/-- The fault of values, by the reference. -/
theorem vf_ev (bits : Int) (xs : List Int) : Ev (fun k => dynamometerref9_valuesFault.f k bits xs) (fault bits xs) := by
  unfold fault
  by_cases h : 2 ≤ bits ∧ bits ≤ 8
  · rw [if_neg (by omega)]
    by_cases h1 : xs.length > 20000
    · rw [if_pos h1]
      refine Ev.congr (f := fun _ => some 3) (fun k => ?_) (Ev.now _)
      unfold dynamometerref9_valuesFault.f
      rw [rform2, decide_eq_true h, Option.bind_some, if_pos rfl, if_pos (by omega)]
    · rw [if_neg h1]
      refine Ev.congr (fun k => ?_) (vf_loop xs (by omega) xs.length 0 (by omega))
      unfold dynamometerref9_valuesFault.f
      rw [rform2, decide_eq_true h, Option.bind_some, if_pos rfl, if_neg (by omega)]
      rfl
  · rw [if_pos (by omega)]
    refine Ev.congr (f := fun _ => some 9) (fun k => ?_) (Ev.now _)
    unfold dynamometerref9_valuesFault.f
    rw [rform2, decide_eq_false h]
    rfl
end Go.Proofs.YtlkameeaaplonaaDoor

/- The bucket of a value, by the reference. -/
namespace Go.Proofs.YtlkameeaaplonaaDoor.QMeasureExpectedMatchesSpec
open Go.RowKit Go.Proofs.YtlkameeaaplonaaDoorW.PrintWords Go.Proofs.YtlkameeaaplonaaDoorW.PrintLast Go.Proofs.YtlkameeaaplonaaDoorW.PrintMore
set_option linter.unusedVariables false
set_option linter.unusedSimpArgs false
section
variable {b p J : Nat} (P : Par b p J)
include P
theorem place_end (k : Nat) (v j s : Nat) (hs : s = 2 ^ (j + 1)) (h1 : p * s ≤ v) (h2 : v < 2 * p * s) (hv : v < 1125899906842624) (hj : j < 50) :
    dynamometerref9_place.l0 (k + 1) (b : Int) (v : Int) (s : Int) ((p * s : Nat) : Int) (((j + 2) * p : Nat) : Int) (p : Int) = some (((j + 1) * p + v / s : Nat) : Int) := by
  have hp := P.p128
  have hp2 := P.p2
  have hs0 : 0 < s := by rw [hs]; exact Nat.pow_pos (by decide)
  have hm2 : v / s < 2 * p := (Nat.div_lt_iff_lt_mul hs0).2 h2
  have hm1 : p ≤ v / s := (Nat.le_div_iff_mul_le hs0).2 h1
  have hjp : (j + 2) * p ≤ 6656 := Nat.le_trans (Nat.mul_le_mul (show j + 2 ≤ 52 by omega) hp) (by decide)
  have ed : (v - p * s) / s = v / s - p := by
    rw [Nat.mul_comm p s, Nat.sub_mul_div]
  have e2 : 2 * p * s = p * s + p * s := by rw [Nat.mul_assoc]; omega
  have e3 : (j + 2) * p = j * p + p + p := by rw [Nat.succ_mul, Nat.succ_mul]
  have e4 : (j + 1) * p = j * p + p := Nat.succ_mul j p
  rw [dynamometerref9_place.l0, mulN p s (by omega), addN (p * s) (p * s) (by omega), if_neg (by omega), if_neg (by omega), subN v (p * s) h1 (by omega)]
  have et : Int.tdiv ((v - p * s : Nat) : Int) (s : Int) = ((v / s - p : Nat) : Int) := by
    rw [← ed]
    rw [Int.tdiv_eq_ediv_of_nonneg (by omega)]
    exact (Int.natCast_ediv _ _).symm
  rw [et]
  generalize v / s = m at hm1 hm2
  rw [w64 (n := ((m - p : Nat) : Int)) (by omega) (by omega), addN _ _ (by omega)]
  congr 2
  omega
theorem place_loop (v j : Nat) (h1 : p * 2 ^ (j + 1) ≤ v) (h2 : v < 2 * p * 2 ^ (j + 1)) (hv : v < 1125899906842624) (hj : j < 50) : ∀ (d i k : Nat), i + d = j →
    dynamometerref9_place.l0 (d + k + 1) (b : Int) (v : Int) ((2 ^ (i + 1) : Nat) : Int) ((p * 2 ^ (i + 1) : Nat) : Int) (((i + 2) * p : Nat) : Int) (p : Int) = some (((j + 1) * p + v / 2 ^ (j + 1) : Nat) : Int)
  | 0, i, k, e => by
    have e' : i = j := by omega
    subst e'
    rw [Nat.zero_add]
    exact place_end P k v i _ rfl h1 h2 hv hj
  | d + 1, i, k, e => by
    have hp := P.p128
    have hp2 := P.p2
    have ih := place_loop v j h1 h2 hv hj d (i + 1) k (by omega)
    have hle : p * 2 ^ (i + 2) ≤ v := Nat.le_trans (Nat.mul_le_mul_left p (Nat.pow_le_pow_right (by decide) (by omega))) h1
    have es : 2 ^ (i + 2) = 2 * 2 ^ (i + 1) := by rw [Nat.pow_succ 2 (i + 1)]; omega
    have es2 : 2 ^ (i + 1 + 1) = 2 * 2 ^ (i + 1) := es
    have hip : (i + 2) * p ≤ 6656 := Nat.le_trans (Nat.mul_le_mul (show i + 2 ≤ 52 by omega) hp) (by decide)
    have e3 : (i + 3) * p = (i + 2) * p + p := Nat.succ_mul _ _
    have e3' : (i + 1 + 2) * p = (i + 2) * p + p := e3
    rw [es2, e3'] at ih
    rw [es] at hle
    generalize hsg : 2 ^ (i + 1) = s at hle ih ⊢
    have hs1 : s ≤ p * s := Nat.le_mul_of_pos_left s (by omega)
    have e2 : p * (2 * s) = p * s + p * s := by rw [Nat.mul_left_comm]; omega
    rw [e2] at hle ih
    rw [show d + 1 + k + 1 = (d + k + 1) + 1 from by omega, dynamometerref9_place.l0, mulN p s (by omega), addN (p * s) (p * s) (by omega), if_pos (by omega), bm1 P, if_pos (by omega), dblN s (by omega), addN _ _ (by omega), sp P]
    exact ih
theorem place_lo (v k : Nat) (hv : v < 2 * p) : dynamometerref9_place.f (k + 1) (b : Int) (v : Int) = some (v : Int) := by
  have hp := P.p128
  unfold dynamometerref9_place.f
  rw [if_pos (by omega), sb P, dynamometerref9_place.l0]
  have e1 : wrap64 (((2 * p : Nat) : Int) * 1) = ((2 * p : Nat) : Int) := by rw [Int.mul_one]; exact w64 (by omega) (by omega)
  have e2 : wrap64 (0 + ((2 * p : Nat) : Int)) = ((2 * p : Nat) : Int) := by rw [Int.zero_add]; exact w64 (by omega) (by omega)
  have e3 : wrap64 ((v : Int) - 0) = (v : Int) := by rw [Int.sub_zero]; exact w64 (by omega) (by omega)
  have e4 : wrap64 (v : Int) = (v : Int) := w64 (by omega) (by omega)
  rw [e1, e2, if_neg (by omega), if_neg (by decide), e3, Int.tdiv_one, e4, Int.zero_add, e4]
theorem place_hi (v j k : Nat) (h1 : p * 2 ^ (j + 1) ≤ v) (h2 : v < 2 * p * 2 ^ (j + 1)) (hv : v < 1125899906842624) :
    dynamometerref9_place.f (j + k + 2) (b : Int) (v : Int) = some (((j + 1) * p + v / 2 ^ (j + 1) : Nat) : Int) := by
  obtain ⟨hj, hm1, hm2⟩ := dbl_facts P h1 h2 hv
  have hp := P.p128
  have hpos : 2 * p ≤ v := by
    have : p * 2 ≤ p * 2 ^ (j + 1) := Nat.mul_le_mul_left p (by rw [Nat.pow_succ]; have := Nat.pow_pos (n := j) (show 0 < 2 by decide); omega)
    omega
  have h := place_loop P v j h1 h2 hv hj j 0 k (by omega)
  unfold dynamometerref9_place.f
  have e1 : wrap64 (((2 * p : Nat) : Int) * 1) = ((2 * p : Nat) : Int) := by rw [Int.mul_one]; exact w64 (by omega) (by omega)
  have e2 : wrap64 (0 + ((2 * p : Nat) : Int)) = ((2 * p : Nat) : Int) := by rw [Int.zero_add]; exact w64 (by omega) (by omega)
  rw [if_pos (by omega), sb P, dynamometerref9_place.l0, e1, e2, if_pos (by omega), bm1 P, if_pos (by omega), sp P]
  have e5 : wrap64 (2 * 1) = ((2 ^ (0 + 1) : Nat) : Int) := (w64 (n := 2 * 1) (by omega) (by omega)).trans (by decide)
  have e6 : ((2 * p : Nat) : Int) = ((p * 2 ^ (0 + 1) : Nat) : Int) := by rw [show p * 2 ^ (0 + 1) = 2 * p from by omega]
  have e7 : ((2 * p : Nat) : Int) = (((0 + 2) * p : Nat) : Int) := by rw [Nat.zero_add]
  rw [e5]
  have h' := h
  rw [← e6, ← e7] at h'
  exact h'
end
end Go.Proofs.YtlkameeaaplonaaDoor.QMeasureExpectedMatchesSpec
