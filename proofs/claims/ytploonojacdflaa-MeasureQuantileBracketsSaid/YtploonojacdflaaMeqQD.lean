/- Quantile of a histogram: the walk. -/
import Derived.Test.YtploonojacdflaaMeqQC
namespace Go.Proofs.Ytploonojacdflaa.Quant
open Go.RowKit Go.Shelf Go.Proofs.Ytploonojacdflaa.QMeasureQuantileBrackets
open Go.Proofs.YtploonojacdflaaW.PrintWords
attribute [local go_sem] Oper.semAt_some
set_option maxHeartbeats 1000000 in
/-- buckets(h): the function value captures a box with h. -/
theorem buckets27 (n : Nat) (bits : Int) (s : Value) (w : World) :
    CallsIn Fence.wide n Try.prog 27 #[.agg #[.int .i64 bits, s]] w fun e w' => e = .returned (.func (.func 38) #[] #[.pointer (some ⟨w.heap.size, 0, none⟩)]) ∧ w' = w.alloc (.cells #[.int .i64 bits, s] 32) := by
  refine callsIn_of_wp Try.func27 rfl trivial ?_ rfl
  simp only [Try.ntmps27, List.size_toArray, List.length_cons, List.length_nil, Nat.reduceAdd, Nat.reduceSub, Array.replicate_succ, Array.replicate_zero, List.push_toArray, List.append_toArray, List.nil_append, List.cons_append]
  gi_wp2
  go_ret
  exact ⟨rfl, rfl⟩
theorem rd_bound {l : List S53} (hb : ∀ s ∈ l, 0 ≤ s.f1 ∧ s.f1 ≤ 20000) (k : Nat) : 0 ≤ (rd_T53 l (k : Int)).f1 ∧ (rd_T53 l (k : Int)).f1 ≤ 20000 := by
  by_cases h : k < l.length
  · exact hb _ (by simp [rd_T53, List.getD, List.getElem?_eq_getElem h])
  · have : rd_T53 l (k : Int) = z53 := by simp [rd_T53, List.getD, List.getElem?_eq_none (Nat.le_of_not_lt h)]
    rw [this]
    decide
theorem take_bound {l : List S53} (hl : l.length ≤ 20000) (hb : ∀ s ∈ l, 0 ≤ s.f1 ∧ s.f1 ≤ 20000) (k : Nat) : 0 ≤ ahead (l.take k) ∧ ahead (l.take k) ≤ 400000000 := by
  have hab := ahead_bound (l.take k) (fun s hs => hb s (List.mem_of_mem_take hs))
  rw [List.length_take] at hab
  omega
/-- What Quantile tells: the limits of the first count with which there are K. -/
def Told (l : List S53) (K : Int) (lo hi : Nat → Int) (x y : Int) : Prop :=
  (x = 0 ∧ y = 0 ∧ ∀ i, i < l.length → ahead (l.take i) + (rd_T53 l (i : Int)).f1 < K) ∨
  ∃ i, i < l.length ∧ (∀ j, j < i → ahead (l.take j) + (rd_T53 l (j : Int)).f1 < K) ∧ K ≤ ahead (l.take i) + (rd_T53 l (i : Int)).f1 ∧ x = lo i ∧ y = hi i
theorem blk_own {β : Type} (B : Nat) (c : Array Value) (t : TypeId) (fr : Nat × Nat) : Own (fun (_ : β) W => W.heap[B]? = some (.cells c t fr)) := fun _ X Y row hs hg hrow =>
  (hg.block B (Array.getElem?_eq_some_iff.1 hs).1 (fun e' => by obtain ⟨o, ho, hc⟩ := hrow B e'.symm; rw [show X.heap[B]? = _ from hs] at ho; cases ho; cases hc)).trans hs
theorem blk_alloc {W : World} {k : Nat} {o : Obj} (h : W.heap[k]? = some o) (o' : Obj) : (W.alloc o').heap[k]? = some o := (Below.heap_alloc W o' k (Array.getElem?_eq_some_iff.1 h).1).trans h
set_option maxRecDepth 100000 in
set_option maxHeartbeats 4000000 in
theorem quant_good (k kt kr : Nat) (bits num den n K : Int) (lo hi : Nat → Int) (A : Option Addr) (c : Nat) (l : List S53) (w : World) (hr : Kd.C k53 w A l.length l) (hc : l.length ≤ c) (hchk : measure_Check.f k bits l = some 0)
    (d1 : decide (num < 0) = false) (d2 : decide (den < num) = false) (d3 : decide (den < 1) = false) (d4 : decide (1000000 < den) = false) (d5 : ((l.length : Int) == 0) = false)
    (htot : measure_total.f kt bits l = some n) (hrank : measure_rank.f kr n num den = some K) (hl : l.length ≤ 20000) (hb : ∀ s ∈ l, 0 ≤ s.f1 ∧ s.f1 ≤ 20000)
    (hlim : ∀ i : Nat, measure_limits.f bits (rd_T53 l (i : Int)).f0 = some (lo i, hi i)) :
    Calls Try.prog 12 #[.agg #[.int .i64 bits, .slice A l.length c], .int .i64 num, .int .i64 den] w fun e w' => ∃ x y, e = .returned (.tuple #[.int .i64 x, .int .i64 y, .int .i64 0]) ∧ Below w.heap.size w w' ∧ Told l K lo hi x y := by
  refine (callsIn_wide (n := 8)).1 ?_
  refine callsIn_of_wp_marks Try.func12 rfl trivial ?_ rfl
  simp only [Try.ntmps12, List.size_toArray, List.length_cons, List.length_nil, Nat.reduceAdd, Nat.reduceSub, Array.replicate_succ, Array.replicate_zero, List.push_toArray, List.append_toArray, List.nil_append, List.cons_append]
  have hB3 : Below w.heap.size w (((w.alloc (.cells #[.int .i64 bits, .slice A l.length c] 32)).alloc (.cells #[.int .i64 0] 3)).alloc (.cells #[.int .i64 0] 3)) := (((Below.refl _ w).alloc (Nat.le_refl _) _).alloc (by simp) _).alloc (by simp; omega) _
  have e3 : (((w.alloc (.cells #[.int .i64 bits, .slice A l.length c] 32)).alloc (.cells #[.int .i64 0] 3)).alloc (.cells #[.int .i64 0] 3)).heap.size = w.heap.size + 3 := by simp
  have b0 : (((w.alloc (.cells #[.int .i64 bits, .slice A l.length c] 32)).alloc (.cells #[.int .i64 0] 3)).alloc (.cells #[.int .i64 0] 3)).heap[w.heap.size]? = some (.cells #[.int .i64 bits, .slice A l.length c] 32 (0, 0)) := (Below.heap_alloc _ _ _ (by simp; omega)).trans ((Below.heap_alloc _ _ _ (by simp)).trans (heap_alloc_new w _))
  have b1 : (((w.alloc (.cells #[.int .i64 bits, .slice A l.length c] 32)).alloc (.cells #[.int .i64 0] 3)).alloc (.cells #[.int .i64 0] 3)).heap[w.heap.size + 1]? = some (.cells #[.int .i64 0] 3 (0, 0)) := (Below.heap_alloc _ _ _ (by simp)).trans (by have := heap_alloc_new (w.alloc (.cells #[.int .i64 bits, .slice A l.length c] 32)) (.cells #[.int .i64 0] 3); simpa using this)
  have b2 : (((w.alloc (.cells #[.int .i64 bits, .slice A l.length c] 32)).alloc (.cells #[.int .i64 0] 3)).alloc (.cells #[.int .i64 0] 3)).heap[w.heap.size + 2]? = some (.cells #[.int .i64 0] 3 (0, 0)) := by have := heap_alloc_new ((w.alloc (.cells #[.int .i64 bits, .slice A l.length c] 32)).alloc (.cells #[.int .i64 0] 3)) (.cells #[.int .i64 0] 3); simpa using this
  have hcall := measure_Check.calls k bits A c l 0 _ (Kd.C_below hr hB3) hc hchk
  gi_wp2_with (refine ⟨trivial, ?_⟩; gi_at_call 24; refine (callsIn_wide.2 hcall).mono ?_; rintro e w1 ⟨rfl, hB⟩; rw [e3] at hB; have hs1 := hB.size; rw [e3] at hs1; have hBw1 := hB3.trans (Below.mono hB (by omega)); have c0 := (hB.block _ (by omega)).trans b0; have c1 := (hB.block _ (by omega)).trans b1; have c2 := (hB.block _ (by omega)).trans b2; have k0 : w1.cell? ⟨w.heap.size, 1, none⟩ = some (.slice A l.length c) := (by simp only [World.cell?, c0]; rfl); have k00 : w1.cell? ⟨w.heap.size, 0, none⟩ = some (.int .i64 bits) := (by simp only [World.cell?, c0]; rfl); have hct := measure_total.calls kt bits A c l n w1 (Kd.C_below hr hBw1) hc htot; clear hcall b0 b1 b2 e3)
  gi_wp2_with (first
    | (refine ⟨trivial, ?_⟩; gi_at_call 26; refine (callsIn_wide.2 hct).mono ?_; rintro e w2 ⟨rfl, hB2⟩; have hcr := measure_rank.calls kr n num den K w2 hrank)
    | (refine ⟨trivial, ?_⟩; gi_at_call 25; refine (callsIn_wide.2 hcr).mono ?_; rintro e w3 ⟨rfl, hB3'⟩; have hs2 := hB2.size; have hs3 := hB3'.size; have c0 := (hB3'.block _ (by omega)).trans ((hB2.block _ (by omega)).trans c0); have c1 := (hB3'.block _ (by omega)).trans ((hB2.block _ (by omega)).trans c1); have c2 := (hB3'.block _ (by omega)).trans ((hB2.block _ (by omega)).trans c2); have q0 := (Below.heap_alloc w3 (.cells #[.int .i64 K] 3) w.heap.size (by omega)).trans c0; have q1 := (Below.heap_alloc w3 (.cells #[.int .i64 K] 3) (w.heap.size + 1) (by omega)).trans c1; have q2 := (Below.heap_alloc w3 (.cells #[.int .i64 K] 3) (w.heap.size + 2) (by omega)).trans c2; have q3 := heap_alloc_new w3 (.cells #[.int .i64 K] 3); have hBw3 := hBw1.trans ((Below.mono hB2 (by omega)).trans (Below.mono hB3' (by omega))); have hBw4 := hBw3.alloc (by omega) (.cells #[.int .i64 K] 3); have k0 : (w3.alloc (.cells #[.int .i64 K] 3)).cell? ⟨w.heap.size, 1, none⟩ = some (.slice A l.length c) := (by simp only [World.cell?, q0]; rfl); have k00 : (w3.alloc (.cells #[.int .i64 K] 3)).cell? ⟨w.heap.size, 0, none⟩ = some (.int .i64 bits) := (by simp only [World.cell?, q0]; rfl))
    | (refine ⟨trivial, ?_⟩; gi_at_call 27; refine (buckets27 _ _ _ _).mono ?_; rintro e w' ⟨rfl, rfl⟩))
  have e5 : ((w3.alloc (.cells #[.int .i64 K] 3)).alloc (.cells #[.int .i64 bits, .slice A l.length c] 32)).heap.size = w3.heap.size + 2 := by simp
  have r0 := (Below.heap_alloc (w3.alloc (.cells #[.int .i64 K] 3)) (.cells #[.int .i64 bits, .slice A l.length c] 32) w.heap.size (by simp; omega)).trans q0
  have r1 := (Below.heap_alloc (w3.alloc (.cells #[.int .i64 K] 3)) (.cells #[.int .i64 bits, .slice A l.length c] 32) (w.heap.size + 1) (by simp; omega)).trans q1
  have r2 := (Below.heap_alloc (w3.alloc (.cells #[.int .i64 K] 3)) (.cells #[.int .i64 bits, .slice A l.length c] 32) (w.heap.size + 2) (by simp; omega)).trans q2
  have r3 := (Below.heap_alloc (w3.alloc (.cells #[.int .i64 K] 3)) (.cells #[.int .i64 bits, .slice A l.length c] 32) w3.heap.size (by simp)).trans q3
  have r4 := heap_alloc_new (w3.alloc (.cells #[.int .i64 K] 3)) (.cells #[.int .i64 bits, .slice A l.length c] 32)
  rw [World.size_alloc] at r4
  have hBw5 := hBw4.alloc hBw4.size (.cells #[.int .i64 bits, .slice A l.length c] 32)
  have hW3 : w.heap.size + 3 ≤ w3.heap.size := by omega
  clear hct hcr q0 q1 q2 q3 k0 k00
  obtain ⟨W0, hW0⟩ : ∃ W0, (w3.alloc (.cells #[.int .i64 K] 3)).alloc (.cells #[.int .i64 bits, .slice A l.length c] 32) = W0 := ⟨_, rfl⟩
  rw [hW0] at e5 r0 r1 r2 r3 r4 hBw5 ⊢
  clear hW0
  refine wpIn_rangeFunc_ownH rfl (by omega) (gf := 38) (lb := #[.pointer (some ⟨w3.heap.size + 1, 0, none⟩)]) rfl trivial (enters_of Try.func38 (by kernel_rfl) rfl)
    (iter38 7 (by omega) (w3.heap.size + 1) c bits A l W0 r4 (Kd.C_below hr hBw5) hl hb) KC.trans (fun W l o o' _ h1 h2 _ => KC.putObj W l o o' h1 h2) (Below.refl _ _) (fun _ => rfl)
    (fun pre W => (((((W.heap[w.heap.size]? = some (.cells #[.int .i64 bits, .slice A l.length c] 32 (0, 0)) ∧ W.heap[w.heap.size + 1]? = some (.cells #[.int .i64 0] 3 (0, 0))) ∧ W.heap[w.heap.size + 2]? = some (.cells #[.int .i64 0] 3 (0, 0))) ∧ W.heap[w3.heap.size]? = some (.cells #[.int .i64 K] 3 (0, 0))) ∧ Below w.heap.size w W) ∧ ∀ k ∈ pre, ahead (l.take k) + (rd_T53 l (k : Int)).f1 < K))
    (fun c pre W => ∃ i, ((W.heap[w.heap.size + 1]? = some (.cells #[.int .i64 (lo i)] 3 (0, 0)) ∧ W.heap[w.heap.size + 2]? = some (.cells #[.int .i64 (hi i)] 3 (0, 0))) ∧ Below w.heap.size w W) ∧ (c = .exit 1 ∧ ∃ ini, pre = ini ++ [i] ∧ (∀ k ∈ ini, ahead (l.take k) + (rd_T53 l (k : Int)).f1 < K) ∧ K ≤ ahead (l.take i) + (rd_T53 l (i : Int)).f1))
    (OwnFrom.and (OwnFrom.and (OwnFrom.and (OwnFrom.and (OwnFrom.and (Own.from (blk_own _ _ _ _) _) (Own.from (blk_own _ _ _ _) _)) (Own.from (blk_own _ _ _ _) _)) (Own.from (blk_own _ _ _ _) _)) (ownFrom_below (Nat.le_refl _) (by omega))) (ownFrom_pure _ _))
    (fun c s X Y row hs hg hr => by obtain ⟨i, hs⟩ := hs; exact ⟨i, (OwnFrom.and (OwnFrom.and (OwnFrom.and (Own.from (blk_own _ _ _ _) _) (Own.from (blk_own _ _ _ _) _)) (ownFrom_below (Nat.le_refl _) (by omega))) (ownFrom_pure _ (fun s => c = .exit 1 ∧ ∃ ini, s = ini ++ [i] ∧ (∀ k ∈ ini, ahead (l.take k) + (rd_T53 l (k : Int)).f1 < K) ∧ K ≤ ahead (l.take i) + (rd_T53 l (i : Int)).f1))) s X Y row hs hg hr⟩)
    ⟨⟨⟨⟨⟨r0, r1⟩, r2⟩, r3⟩, hBw5⟩, fun k hk => by cases hk⟩
    (fun x a' W => ∃ Bx, W.heap[Bx]? = some (.cells #[.int .i64 (rd_T53 l (x : Int)).f0, .int .i64 (rd_T53 l (x : Int)).f1] 53 (0, 0)) ∧ a' = { tmps := #[.agg #[.int .i64 bits, .slice A l.length c], .int .i64 num, .int .i64 den, .pointer (some ⟨w.heap.size, 0, none⟩), undef, undef, .pointer (some ⟨w.heap.size + 1, 0, none⟩), .pointer (some ⟨w.heap.size + 1 + 1, 0, none⟩), .int .i64 0, .int .i64 0, .pointer (some ⟨w3.heap.size, 0, none⟩), .int .i64 (ahead (l.take x)), .pointer (some ⟨Bx, 0, none⟩), .agg #[.int .i64 bits, .slice A l.length c], .int .i64 0, .int .i64 0, .bool false, undef, .bool false, .int .i64 num, .bool false, .bool false, .int .i64 num, .int .i64 den, .bool false, .bool false, .bool false, .int .i64 den, .bool false, .bool false, .bool false, .int .i64 den, .bool false, .bool false, .bool false, .pointer (some ⟨w.heap.size, 1, none⟩), .slice A l.length c, .int .i64 (l.length : Int), .bool false, .agg #[.int .i64 bits, .slice A l.length c], .int .i64 n, .int .i64 num, .int .i64 den, .int .i64 K, .agg #[.int .i64 bits, .slice A l.length c], .func (.func 38) #[] #[.pointer (some ⟨w3.heap.size + 1, 0, none⟩)], .int .i64 (ahead (l.take x)), .agg #[.int .i64 (rd_T53 l (x : Int)).f0, .int .i64 (rd_T53 l (x : Int)).f1], undef, undef, undef, undef, undef, undef, undef, undef, undef, undef, undef, undef, undef, undef, undef, undef], defers := [] })
    (fun x a' s X Y row hs hg hr => by obtain ⟨Bx, h1, h2⟩ := hs; exact ⟨Bx, blk_own Bx _ _ _ s X Y row h1 hg (fun r e => (hr r e).2), h2⟩)
    ?assign ?body ?done ?stop
  case assign =>
    rintro lo_ pre x W K_ ⟨⟨⟨⟨⟨s0, s1⟩, s2⟩, s3⟩, hB1⟩, hp⟩ hK
    gi_wp2
    exact hK _ _ ((KeepsOthers.alloc _ _).from _) (KC.alloc _ _) ⟨⟨⟨⟨⟨blk_alloc s0 _, blk_alloc s1 _⟩, blk_alloc s2 _⟩, blk_alloc s3 _⟩, hB1.alloc hB1.size _⟩, hp⟩ ⟨W.heap.size, heap_alloc_new _ _, rfl⟩
  case body =>
    rintro lo_ pre x a' W hl_ _ ⟨⟨⟨⟨⟨s0, s1⟩, s2⟩, s3⟩, hB1⟩, hp⟩ ⟨Bx, bX, rfl⟩ hlt
    have hrb := rd_bound hb x
    have htb := take_bound hl hb x
    have hlc := measure_limits.calls bits (rd_T53 l (x : Int)).f0 (lo x) (hi x) W (hlim x)
    have p0 : W.cell? ⟨Bx, 0, none⟩ = some (.int .i64 (rd_T53 l (x : Int)).f0) := by simp only [World.cell?, bX]; rfl
    have p1 : W.cell? ⟨Bx, 1, none⟩ = some (.int .i64 (rd_T53 l (x : Int)).f1) := by simp only [World.cell?, bX]; rfl
    have p2 : W.cell? ⟨w.heap.size, 0, none⟩ = some (.int .i64 bits) := by simp only [World.cell?, s0]; rfl
    have p3 : W.cell? ⟨w3.heap.size, 0, none⟩ = some (.int .i64 K) := by simp only [World.cell?, s3]; rfl
    have p4 : W.cell? ⟨w.heap.size + 1, 0, none⟩ = some (.int .i64 0) := by simp only [World.cell?, s1]; rfl
    have p5 : W.cell? ⟨w.heap.size + 1 + 1, 0, none⟩ = some (.int .i64 0) := by simp only [World.cell?, s2]; rfl
    have p6 : W.frozen? ⟨w.heap.size + 1, 0, none⟩ = false := by simp only [World.frozen?, s1]; rfl
    have p7 : W.frozen? ⟨w.heap.size + 1 + 1, 0, none⟩ = false := by simp only [World.frozen?, s2]; rfl
    have HP := Aside0.mk hp
    clear hp
    generalize hs : rd_T53 l (x : Int) = s at hrb hlc p0 p1 ⊢
    have HS := Aside0.mk hs
    clear hs bX
    generalize hah : ahead (l.take x) = ah at htb ⊢
    have HH := Aside0.mk hah
    clear hah
    by_cases hge : K ≤ ah + s.f1
    · have hd : decide (K ≤ ah + s.f1) = true := decide_eq_true hge
      gi_wp2_with (first
        | (refine ⟨trivial, ?_⟩; gi_at_call 19; refine (CallsIn.inRound lo_ (callsIn_wide.2 hlc)).mono ?_; rintro e w' ⟨rfl, ⟨nd, rfl⟩⟩)
        | (gi_at_call 19; refine (CallsIn.inRound lo_ (callsIn_wide.2 hlc)).mono ?_; rintro e w' ⟨rfl, ⟨nd, rfl⟩⟩))
      have g1 := (heap_setCell_other ((W.drewN nd).setCell ⟨w.heap.size + 1, 0, none⟩ (.int .i64 (lo x))) ⟨w.heap.size + 1 + 1, 0, none⟩ (w.heap.size + 1) (.int .i64 (hi x)) (by simp)).trans (heap_setCell_same (W.drewN nd) (w.heap.size + 1) 0 _ 3 (.int .i64 (lo x)) s1)
      have g2 := heap_setCell_same _ (w.heap.size + 2) 0 _ 3 (.int .i64 (hi x)) ((heap_setCell_other (W.drewN nd) ⟨w.heap.size + 1, 0, none⟩ (w.heap.size + 2) (.int .i64 (lo x)) (by simp)).trans s2)
      refine ⟨?_, x, ⟨⟨by simpa using g1, by simpa using g2⟩, ?_⟩, rfl, pre, rfl, HP.out, by rw [HH.out, HS.out]; exact hge⟩
      · have k0 : KeepsOthers W (W.drewN nd) := ⟨Nat.le_refl _, fun _ _ h _ => h⟩
        exact ((k0.trans (KeepsOthers.setCell _ _ _)).trans (KeepsOthers.setCell _ _ _)).from _
      · exact ((pw_below_drewN hB1 nd).setCell (p := ⟨w.heap.size + 1, 0, none⟩) (by simp) _).setCell (p := ⟨w.heap.size + 1 + 1, 0, none⟩) (by simp; omega) _
    · have hd : decide (K ≤ ah + s.f1) = false := decide_eq_false hge
      gi_wp2
      refine ⟨KeepsFrom.refl _ _, KC.refl _, ⟨⟨⟨⟨⟨s0, s1⟩, s2⟩, s3⟩, hB1⟩, fun j hj => ?_⟩⟩
      rcases List.mem_append.1 hj with hj | hj
      · exact HP.out j hj
      · obtain rfl : j = x := by simpa using hj
        rw [HH.out, HS.out]
        omega
  case done =>
    rintro D zs W hD rfl ⟨⟨⟨⟨⟨s0, s1⟩, s2⟩, s3⟩, hB1⟩, hp⟩ hK
    have p4 : W.cell? ⟨w.heap.size + 1, 0, none⟩ = some (.int .i64 0) := by simp only [World.cell?, s1]; rfl
    have p5 : W.cell? ⟨w.heap.size + 1 + 1, 0, none⟩ = some (.int .i64 0) := by simp only [World.cell?, s2]; rfl
    have p6 : W.frozen? ⟨w.heap.size + 1, 0, none⟩ = false := by simp only [World.frozen?, s1]; rfl
    have p7 : W.frozen? ⟨w.heap.size + 1 + 1, 0, none⟩ = false := by simp only [World.frozen?, s2]; rfl
    gi_wp2
    gi_region
    gi_wp2
    have g1 := (heap_setCell_other (W.setCell ⟨w.heap.size + 1, 0, none⟩ (.int .i64 0)) ⟨w.heap.size + 1 + 1, 0, none⟩ (w.heap.size + 1) (.int .i64 0) (by simp)).trans (heap_setCell_same W (w.heap.size + 1) 0 _ 3 (.int .i64 0) s1)
    have g2 := heap_setCell_same _ (w.heap.size + 2) 0 _ 3 (.int .i64 0) ((heap_setCell_other W ⟨w.heap.size + 1, 0, none⟩ (w.heap.size + 2) (.int .i64 0) (by simp)).trans s2)
    have hBz := (hB1.setCell (p := ⟨w.heap.size + 1, 0, none⟩) (by simp) (.int .i64 0)).setCell (p := ⟨w.heap.size + 1 + 1, 0, none⟩) (by simp; omega) (.int .i64 0)
    have hKz := ((KeepsOthers.setCell W ⟨w.heap.size + 1, 0, none⟩ (.int .i64 0)).trans (KeepsOthers.setCell _ ⟨w.heap.size + 1 + 1, 0, none⟩ (.int .i64 0))).same D _ hK rfl
    obtain ⟨Wz, hWz⟩ : ∃ Wz, ((W.setCell ⟨w.heap.size + 1, 0, none⟩ (.int .i64 0)).setCell ⟨w.heap.size + 1 + 1, 0, none⟩ (.int .i64 0)).drew = Wz := ⟨_, rfl⟩
    have hKz' : Wz.heap[D]? = some (.deferred (some [])) := by rw [← hWz]; exact hKz
    have g1' : Wz.heap[w.heap.size + 1]? = some (.cells #[.int .i64 0] 3 (0, 0)) := by rw [← hWz]; exact g1.trans (by simp)
    have g2' : Wz.heap[w.heap.size + 2]? = some (.cells #[.int .i64 0] 3 (0, 0)) := by rw [← hWz]; exact g2.trans (by simp)
    have hBz' : Below w.heap.size w Wz := by rw [← hWz]; exact hBz.drew
    rw [hWz]
    clear hWz g1 g2 hKz hBz
    have u1 := cell_kept (show Wz.cell? ⟨w.heap.size + 1, 0, none⟩ = some (.int .i64 0) by simp only [World.cell?, g1']; rfl) (grownBy_putObj' _ D (.deferred none)) (fun r e => by cases e; exact ⟨_, hKz', rfl⟩)
    have u2 := cell_kept (show Wz.cell? ⟨w.heap.size + 1 + 1, 0, none⟩ = some (.int .i64 0) by simp only [World.cell?, g2']; rfl) (grownBy_putObj' _ D (.deferred none)) (fun r e => by cases e; exact ⟨_, hKz', rfl⟩)
    refine ⟨by simp, .inl ⟨_, _, rfl, run_takeDeferred hKz', ?_⟩⟩
    refine ⟨.tuple #[.int .i64 0, .int .i64 0, .int .i64 0], ?_, 0, 0, rfl, hBz'.trans (belowK_b (w := w) (Nat.le_refl _) Wz D _ _ (by omega) hKz' rfl rfl), .inl ⟨rfl, rfl, fun i hi_ => hp i (List.mem_range.2 hi_)⟩⟩
    simp [results, Try.f12, go_sem, u1, u2]
  case stop =>
    rintro D c_ pre W hD ⟨k_, hk_, rfl⟩ ⟨i, ⟨⟨s1, s2⟩, hB1⟩, rfl, ini, e1, hp, hge⟩ hK
    have p4 : W.cell? ⟨w.heap.size + 1, 0, none⟩ = some (.int .i64 (lo i)) := by simp only [World.cell?, s1]; rfl
    have p5 : W.cell? ⟨w.heap.size + 1 + 1, 0, none⟩ = some (.int .i64 (hi i)) := by simp only [World.cell?, s2]; rfl
    have p6 : W.frozen? ⟨w.heap.size + 1, 0, none⟩ = false := by simp only [World.frozen?, s1]; rfl
    have p7 : W.frozen? ⟨w.heap.size + 1 + 1, 0, none⟩ = false := by simp only [World.frozen?, s2]; rfl
    gi_wp2
    obtain ⟨rfl, e5⟩ := List.append_inj' e1 rfl
    obtain rfl : k_ = i := by simpa using e5
    gi_region
    gi_wp2
    have g1 := (heap_setCell_other (W.setCell ⟨w.heap.size + 1, 0, none⟩ (.int .i64 (lo k_))) ⟨w.heap.size + 1 + 1, 0, none⟩ (w.heap.size + 1) (.int .i64 (hi k_)) (by simp)).trans (heap_setCell_same W (w.heap.size + 1) 0 _ 3 (.int .i64 (lo k_)) s1)
    have g2 := heap_setCell_same _ (w.heap.size + 2) 0 _ 3 (.int .i64 (hi k_)) ((heap_setCell_other W ⟨w.heap.size + 1, 0, none⟩ (w.heap.size + 2) (.int .i64 (lo k_)) (by simp)).trans s2)
    have hBz := (hB1.setCell (p := ⟨w.heap.size + 1, 0, none⟩) (by simp) (.int .i64 (lo k_))).setCell (p := ⟨w.heap.size + 1 + 1, 0, none⟩) (by simp; omega) (.int .i64 (hi k_))
    have hKz := ((KeepsOthers.setCell W ⟨w.heap.size + 1, 0, none⟩ (.int .i64 (lo k_))).trans (KeepsOthers.setCell _ ⟨w.heap.size + 1 + 1, 0, none⟩ (.int .i64 (hi k_)))).same D _ hK rfl
    obtain ⟨Wz, hWz⟩ : ∃ Wz, ((W.setCell ⟨w.heap.size + 1, 0, none⟩ (.int .i64 (lo k_))).setCell ⟨w.heap.size + 1 + 1, 0, none⟩ (.int .i64 (hi k_))).drew = Wz := ⟨_, rfl⟩
    have hKz' : Wz.heap[D]? = some (.deferred (some [])) := by rw [← hWz]; exact hKz
    have g1' : Wz.heap[w.heap.size + 1]? = some (.cells #[.int .i64 (lo k_)] 3 (0, 0)) := by rw [← hWz]; exact g1.trans (by simp)
    have g2' : Wz.heap[w.heap.size + 2]? = some (.cells #[.int .i64 (hi k_)] 3 (0, 0)) := by rw [← hWz]; exact g2.trans (by simp)
    have hBz' : Below w.heap.size w Wz := by rw [← hWz]; exact hBz.drew
    rw [hWz]
    clear hWz g1 g2 hKz hBz
    have u1 := cell_kept (show Wz.cell? ⟨w.heap.size + 1, 0, none⟩ = some (.int .i64 (lo k_)) by simp only [World.cell?, g1']; rfl) (grownBy_putObj' _ D (.deferred none)) (fun r e => by cases e; exact ⟨_, hKz', rfl⟩)
    have u2 := cell_kept (show Wz.cell? ⟨w.heap.size + 1 + 1, 0, none⟩ = some (.int .i64 (hi k_)) by simp only [World.cell?, g2']; rfl) (grownBy_putObj' _ D (.deferred none)) (fun r e => by cases e; exact ⟨_, hKz', rfl⟩)
    refine ⟨by simp, .inl ⟨_, _, rfl, run_takeDeferred hKz', ?_⟩⟩
    refine ⟨.tuple #[.int .i64 (lo k_), .int .i64 (hi k_), .int .i64 0], ?_, (lo k_), (hi k_), rfl, hBz'.trans (belowK_b (w := w) (Nat.le_refl _) Wz D _ _ (by omega) hKz' rfl rfl), .inr ⟨k_, hk_, fun j hj => hp j (List.mem_range.2 hj), hge, rfl, rfl⟩⟩
    simp [results, Try.f12, go_sem, u1, u2]
end Go.Proofs.Ytploonojacdflaa.Quant
