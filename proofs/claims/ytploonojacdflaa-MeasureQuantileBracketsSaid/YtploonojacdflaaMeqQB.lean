/- The iterator over a histogram's counts: its contract. Condition: the counts are not negative and small. -/
import Derived.Test.YtploonojacdflaaMeqQA
namespace Go.Proofs.Ytploonojacdflaa.Quant
open Go.RowKit Go.Shelf Go.Proofs.Ytploonojacdflaa.QMeasureQuantileBrackets
open Go.Proofs.YtploonojacdflaaW.PrintWords
attribute [local go_sem] Oper.semAt_some
/-- Every row of cells lies as it lay. -/
def KC (W W' : World) : Prop := W.heap.size ≤ W'.heap.size ∧ ∀ (k : Nat) (c : Array Value) (e : TypeId) (fr : Nat × Nat), W.heap[k]? = some (.cells c e fr) → W'.heap[k]? = some (.cells c e fr)
theorem KC.refl (W : World) : KC W W := ⟨Nat.le_refl _, fun _ _ _ _ h => h⟩
theorem KC.trans {A B C : World} (h : KC A B) (k : KC B C) : KC A C := ⟨Nat.le_trans h.1 k.1, fun i c e fr hi => k.2 i c e fr (h.2 i c e fr hi)⟩
theorem KC.of_below {W W' : World} (h : Below W.heap.size W W') : KC W W' := ⟨h.size, fun k _ _ _ hk => (h.block k (Array.getElem?_eq_some_iff.1 hk).1).trans hk⟩
theorem KC.alloc (W : World) (o : Obj) : KC W (W.alloc o) := KC.of_below ((Below.refl _ W).alloc (Nat.le_refl _) o)
theorem KC.putObj (W : World) (l : Nat) (o o' : Obj) (ho : W.heap[l]? = some o) (hc : o.isCells = false) : KC W (W.putObj l o') := by
  have hg := grownBy_putObj' W l o'
  refine ⟨hg.size, fun k c e fr hk => (hg.block k (Array.getElem?_eq_some_iff.1 hk).1 (fun e => ?_)).trans hk⟩
  cases e
  rw [hk] at ho
  cases ho
  cases hc
theorem KC.cell {W W' : World} (h : KC W W') {a : Addr} {v : Value} (hc : W.cell? a = some v) : W'.cell? a = some v := by
  unfold World.cell? at hc ⊢
  cases hh : W.heap[a.block]? with
  | none => rw [hh] at hc; simp at hc
  | some o =>
    rw [hh] at hc
    cases o with
    | cells c e fr => rw [h.2 _ c e fr hh]; exact hc
    | _ => simp at hc
/-- How many are ahead. -/
def ahead : List S53 → Int
  | [] => 0
  | s :: r => s.f1 + ahead r
theorem ahead_snoc (s : S53) : ∀ l : List S53, ahead (l ++ [s]) = ahead l + s.f1
  | [] => by simp [ahead]
  | x :: r => by
    simp only [List.cons_append, ahead, ahead_snoc s r]
    omega
theorem ahead_bound (l : List S53) (h : ∀ s ∈ l, 0 ≤ s.f1 ∧ s.f1 ≤ 20000) : 0 ≤ ahead l ∧ ahead l ≤ 20000 * l.length := by
  induction l with
  | nil => simp [ahead]
  | cons s r ih =>
    have := ih (fun t ht => h t (by simp [ht]))
    have := h s (by simp)
    simp only [ahead, List.length_cons]
    push_cast
    omega
/-- What comes in round k: how many are ahead, and the count. -/
abbrev encs (l : List S53) (k : Nat) : Array Value := #[.int .i64 (ahead (l.take k)), .agg #[.int .i64 (rd_T53 l (k : Int)).f0, .int .i64 (rd_T53 l (k : Int)).f1]]
theorem ahead_succ {l : List S53} {k : Nat} (h : k < l.length) : ahead (l.take (k + 1)) = ahead (l.take k) + (rd_T53 l (k : Int)).f1 := by
  have htk : l.take (k + 1) = l.take k ++ [rd_T53 l (k : Int)] := by
    rw [List.take_succ_eq_append_getElem h]
    simp [rd_T53, List.getD, List.getElem?_eq_getElem h]
  rw [htk, ahead_snoc]
set_option maxRecDepth 100000 in
set_option maxHeartbeats 2000000 in
theorem iter38 (n : Nat) (hn : 1 ≤ n) (Bs c : Nat) (bits : Int) (A : Option Addr) (l : List S53) (w : World) (hBs : w.heap[Bs]? = some (.cells #[.int .i64 bits, .slice A l.length c] 32 (0, 0)))
    (hC : Kd.C k53 w A l.length l) (hl : l.length ≤ 20000) (hb : ∀ s ∈ l, 0 ≤ s.f1 ∧ s.f1 ≤ 20000) :
    SeqStopsK Fence.wide n Try.prog 38 #[.pointer (some ⟨Bs, 0, none⟩)] (encs l) KC (fun ys => ys = List.range l.length) (fun pre => ∃ k, k < l.length ∧ pre = List.range k ++ [k]) l.length w := fun lo J Jx W hW hJ hJx hY h0 => by
  have hKW := KC.of_below hW
  have hBs1 := hKW.2 _ _ _ _ hBs
  have hcell : ∀ W', KC w W' → ∀ k : Nat, k < l.length → ∃ ad, A = some ad ∧ W'.cell? (ad.add (k * 2)) = some (.int .i64 (rd_T53 l (k : Int)).f0) ∧ W'.cell? ⟨(ad.add (k * 2)).block, (ad.add (k * 2)).off + 1, none⟩ = some (.int .i64 (rd_T53 l (k : Int)).f1) := by
    intro W' hK k hk
    obtain ⟨ad, rfl, q0, q1⟩ := at_T53 hC (k : Int) (by omega) (by omega)
    rw [Int.toNat_natCast] at q0 q1
    exact ⟨ad, rfl, hK.cell q0, hK.cell q1⟩
  have c1 : W.cell? ⟨Bs, 1, none⟩ = some (.slice A l.length c) := by simp only [World.cell?, hBs1]; rfl
  refine callsIn_of_wp Try.func38 rfl trivial ?_ rfl
  simp only [Try.ntmps38, List.size_toArray, List.length_cons, List.length_nil, Nat.reduceAdd, Nat.reduceSub, Array.replicate_succ, Array.replicate_zero, List.push_toArray, List.append_toArray, List.nil_append, List.cons_append]
  gi_wp2
  gi_loopw [3, 9] (fun s3 s9 wr => ∃ k : Nat, k ≤ l.length ∧ s9 = .int .i64 k ∧ s3 = .int .i64 (ahead (l.take k)) ∧ J (List.range k) wr ∧ KC W wr ∧ W.heap.size ≤ wr.heap.size)
    (fun _ i _ => l.length - (intOf i).toNat)
  case atStart => exact ⟨0, Nat.zero_le _, rfl, rfl, h0, KC.refl _, Nat.le_refl _⟩
  case round =>
    obtain ⟨k, hk, rfl, rfl, hJs, hnx, hsz⟩ := hrel
    by_cases hlt : k < l.length
    · have hd : decide ((k : Int) < (l.length : Int)) = true := decide_eq_true (by omega)
      obtain ⟨ad, rfl, q0, q1⟩ := hcell wr (hKW.trans hnx) k hlt
      have hin : rd_T53 l (k : Int) ∈ l := by simp [rd_T53, List.getD, List.getElem?_eq_getElem hlt]
      have hah := ahead_succ hlt
      have hab := ahead_bound (l.take k) (fun s hs => hb s (List.mem_of_mem_take hs))
      rw [List.length_take] at hab
      have hsb := hb _ hin
      have HA := Aside0.mk hah
      clear hah hin
      obtain ⟨s, hs⟩ : ∃ s, rd_T53 l (k : Int) = s := ⟨_, rfl⟩
      have HS := Aside0.mk hs
      rw [hs] at q0 q1 hsb
      clear hs
      have hJ1 := hJ _ _ _ none hJs (World.grownBy_alloc wr (.cells #[.int .i64 s.f0, .int .i64 s.f1] 53) none) (fun r e => by cases e)
      obtain ⟨fn, tmps, assign, body, hy, hR⟩ := hY (List.range k) k _ hJ1 (by rw [List.length_range]; exact hlt)
      (try dsimp only [encs] at hy)
      rw [HS.out] at hy
      obtain ⟨ah, hah⟩ : ∃ ah, ahead (l.take k) = ah := ⟨_, rfl⟩
      rw [hah] at hy hab
      have HH := Aside0.mk hah
      rw [hah]
      clear hah
      gi_wp2
      refine hR.mono ?_
      rintro e W3 (⟨rfl, hJ3, hk3⟩ | ⟨rfl, hJx3⟩)
      · have hbx : W3.cell? ⟨wr.heap.size, 1, none⟩ = some (.int .i64 s.f1) := hk3.cell (by have h := heap_alloc_new wr (.cells #[.int .i64 s.f0, .int .i64 s.f1] 53); simp only [World.cell?, h]; rfl)
        have hsz3 := hk3.1
        gi_wp2
        go_roundw
        case rel =>
          refine ⟨k + 1, by omega, by simp, by rw [HA.out, HS.out, HH.out], ?_, hnx.trans ((KC.alloc wr _).trans hk3), ?_⟩
          · rw [List.range_succ]
            exact hJ3
          · simp at hsz3
            omega
        case measure => simp [intOf]; omega
      · gi_wp2
        refine bodyPost_ret (results_none rfl _ _ _) rfl ?_
        exact ⟨⟨_, rfl⟩, .inr ⟨_, ⟨k, hlt, rfl⟩, hJx3⟩⟩
    · have hke : k = l.length := by omega
      subst hke
      gi_wp2
      go_end0
      exact ⟨⟨_, rfl⟩, .inl ⟨_, rfl, hJs⟩⟩
end Go.Proofs.Ytploonojacdflaa.Quant
