/- The texts of the claim, part 3: each says in its own first line what is proved and its conditions. -/
import Derived.Test.YtlkameeaaplonaaDoorQMeasureExpectedMatchesSpecx0
import Derived.Test.YtlkameeaaplonaaDoorQMeasureExpectedMatchesSpecx1
import Derived.Test.YtlkameeaaplonaaDoorQMeasureExpectedMatchesSpecx2
import Derived.Test.YtlkameeaaplonaaDoorQMeasureExpectedMatchesSpecx3
import Derived.Test.YtlkameeaaplonaaDoorQMeasureExpectedMatchesSpecx4
import Derived.Test.YtlkameeaaplonaaDoorQMeasureExpectedMatchesSpecx5
import Derived.Test.YtlkameeaaplonaaDoorZE1
import Derived.Test.YtlkameeaaplonaaDoorZE2
/- Histograms by the counts of their buckets. Condition: none. -/
namespace Go.Proofs.YtlkameeaaplonaaDoor
open Go.Shelf Go.RowKit Go.Maps Go.Proofs.YtlkameeaaplonaaDoor.QMeasureExpectedMatchesSpec
open Go.Proofs.YtlkameeaaplonaaDoorW.PrintWords
/-- How many a list of counts has in a bucket. -/
def hs : List S44 → Int → Int
  | [], _ => 0
  | s :: r, x => (if s.f0 = x then s.f1 else 0) + hs r x
theorem hs_append (x : Int) (b : List S44) : ∀ a : List S44, hs (a ++ b) x = hs a x + hs b x
  | [] => by simp [hs]
  | s :: r => by
    rw [List.cons_append, hs, hs, hs_append x b r]
    omega
theorem hs_snoc (x : Int) (a : List S44) (s : S44) : hs (a ++ [s]) x = hs a x + if s.f0 = x then s.f1 else 0 := by
  rw [hs_append]
  simp [hs]
/-- r is the histogram with the counts F: rising, all that are above 0. -/
structure IsHist (F : Int → Int) (r : List S44) : Prop where
  rising : (r.map (·.f0)).Pairwise (· < ·)
  mem : ∀ s : S44, s ∈ r ↔ s.f1 = F s.f0 ∧ 0 < s.f1
theorem hist_unique {F : Int → Int} {r1 r2 : List S44} (h1 : IsHist F r1) (h2 : IsHist F r2) : r1 = r2 :=
  rising_ext r1 r2 h1.rising h2.rising fun s => by rw [h1.mem, h2.mem]
theorem IsHist.congr {F G : Int → Int} {r : List S44} (h : IsHist F r) (e : ∀ x, F x = G x) : IsHist G r :=
  ⟨h.rising, fun s => by rw [h.mem, e]⟩
theorem hs_zero (x : Int) : ∀ r : List S44, (∀ s ∈ r, s.f0 ≠ x) → hs r x = 0
  | [], _ => rfl
  | s :: r, h => by
    rw [hs, if_neg (h s (by simp)), hs_zero x r (fun t ht => h t (by simp [ht]))]
    rfl
theorem hs_mem : ∀ r : List S44, (r.map (·.f0)).Pairwise (· < ·) → ∀ s ∈ r, hs r s.f0 = s.f1
  | [], _, s, h => by simp at h
  | t :: r, hp, s, h => by
    rw [List.map_cons, List.pairwise_cons] at hp
    have hlt : ∀ u ∈ r, t.f0 < u.f0 := fun u hu => hp.1 _ (List.mem_map.2 ⟨u, hu, rfl⟩)
    rcases List.mem_cons.1 h with rfl | h
    · rw [hs, if_pos rfl, hs_zero _ r (fun u hu => by have := hlt u hu; omega)]
      omega
    · have := hlt s h
      rw [hs, if_neg (by omega), hs_mem r hp.2 s h]
      omega
theorem hs_pos (x : Int) : ∀ r : List S44, 0 < hs r x → ∃ s ∈ r, s.f0 = x := fun r h => by
  rcases Classical.em (∃ s ∈ r, s.f0 = x) with h1 | h1
  · exact h1
  · have := hs_zero x r (fun s hs' e => h1 ⟨s, hs', e⟩)
    omega
theorem hs_nonneg (x : Int) : ∀ r : List S44, (∀ s ∈ r, 0 ≤ s.f1) → 0 ≤ hs r x
  | [], _ => Int.le_refl _
  | s :: r, h => by
    have h1 := hs_nonneg x r (fun t ht => h t (by simp [ht]))
    have h2 := h s (by simp)
    rw [hs]
    split <;> omega
theorem isHist_hs {r : List S44} (hp : (r.map (·.f0)).Pairwise (· < ·)) (h0 : ∀ s ∈ r, 0 < s.f1) : IsHist (hs r) r :=
  ⟨hp, fun s => ⟨fun h => ⟨(hs_mem r hp s h).symm, h0 s h⟩, fun ⟨h1, h2⟩ => by
    obtain ⟨t, ht, e⟩ := hs_pos s.f0 r (by omega)
    have h3 := hs_mem r hp t ht
    rw [e] at h3
    have : s = t := by
      obtain ⟨a, b⟩ := s
      obtain ⟨c, d⟩ := t
      simp at e h1 h3
      rw [S44.mk.injEq]
      omega
    rw [this]
    exact ht⟩⟩
theorem IsHist.pos {F : Int → Int} {r : List S44} (h : IsHist F r) : ∀ s ∈ r, 0 < s.f1 := fun s hs' => ((h.mem s).1 hs').2
theorem IsHist.eq {F : Int → Int} {r : List S44} (h : IsHist F r) (h0 : ∀ x, 0 ≤ F x) (x : Int) : hs r x = F x := by
  rcases Int.lt_or_le 0 (F x) with h1 | h1
  · have hm := (h.mem ⟨x, F x⟩).2 ⟨rfl, h1⟩
    exact hs_mem r h.rising _ hm
  · have h2 := h0 x
    have h3 : F x = 0 := by omega
    rw [h3]
    refine hs_zero x r fun s hs' e => ?_
    obtain ⟨h4, h5⟩ := (h.mem s).1 hs'
    rw [e] at h4
    omega
/-- A map that holds the counts F, at most n buckets. -/
structure Cn (D : DataW Unit) (F : Int → Int) (n : Nat) : Prop where
  tidy : Tidy D
  size : Maps.size D ≤ n
  has : ∀ x, F x ≠ 0 → has D (.int .i64 x) = true
  val : ∀ x, val D x = F x
theorem cn_nil : Cn (.map []) (fun _ => 0) 0 := ⟨tidy_empty, Nat.le_refl _, fun _ h => absurd rfl h, fun _ => rfl⟩
theorem Cn.congr {D : DataW Unit} {F G : Int → Int} {n : Nat} (h : Cn D F n) (e : ∀ x, F x = G x) : Cn D G n :=
  ⟨h.tidy, h.size, fun x hx => h.has x (by rw [e]; exact hx), fun x => by rw [h.val, e]⟩
theorem Cn.put {D : DataW Unit} {F : Int → Int} {n : Nat} (h : Cn D F n) (x d : Int) : Cn (D.put (.int .i64 x) (.lit (.int .i64 d))) (fun y => if x = y then d else F y) (n + 1) := by
  have hk : WideAt.IsKeyLit (Lit.int .i64 x) := trivial
  refine ⟨h.tidy.put hk _, ?_, fun y hy => ?_, fun y => ?_⟩
  · rw [size_put h.tidy]
    have := h.size
    split <;> omega
  · by_cases e : x = y
    · subst e
      exact has_put_same h.tidy.isMap hk _
    · rw [if_neg e] at hy
      rw [has_put_other (by simpa using fun e' => e e'.symm)]
      exact h.has y hy
  · by_cases e : x = y
    · subst e
      unfold Go.Proofs.YtlkameeaaplonaaDoor.val
      rw [atKey_put_same h.tidy.isMap hk]
      simp
    · have hv := h.val y
      unfold Go.Proofs.YtlkameeaaplonaaDoor.val at hv ⊢
      rw [atKey_put_other (by simpa using fun e' => e e'.symm), hv, if_neg e]
theorem Cn.add {D : DataW Unit} {F : Int → Int} {n : Nat} (h : Cn D F n) (x c d : Int) (hd : d = F x + c) : Cn (D.put (.int .i64 x) (.lit (.int .i64 d))) (fun y => F y + if x = y then c else 0) (n + 1) :=
  (h.put x d).congr fun y => by
    by_cases e : x = y
    · subst e
      rw [if_pos rfl, if_pos rfl, hd]
    · rw [if_neg e, if_neg e]
      omega
theorem cnts_mem (D : DataW Unit) (s : S44) : ∀ xs : List Int, s ∈ cnts D xs ↔ s.f0 ∈ xs ∧ s.f1 = val D s.f0 ∧ 0 < s.f1
  | [] => by simp [cnts]
  | x :: r => by
    have ih := cnts_mem D s r
    rw [cnts]
    by_cases h : 0 < Go.Proofs.YtlkameeaaplonaaDoor.val D x
    · rw [if_pos h, List.mem_cons, ih, List.mem_cons]
      constructor
      · rintro (rfl | ⟨h1, h2⟩)
        · exact ⟨.inl rfl, rfl, h⟩
        · exact ⟨.inr h1, h2⟩
      · rintro ⟨h1 | h1, h2, h3⟩
        · left
          obtain ⟨a, b⟩ := s
          simp at h1 h2
          subst h1
          rw [h2]
        · exact .inr ⟨h1, h2, h3⟩
    · rw [if_neg h, ih, List.mem_cons]
      constructor
      · rintro ⟨h1, h2⟩
        exact ⟨.inr h1, h2⟩
      · rintro ⟨h1 | h1, h2, h3⟩
        · rw [h1] at h2
          omega
        · exact ⟨h1, h2, h3⟩
theorem cnts_rising (D : DataW Unit) : ∀ xs : List Int, Rising xs → ((cnts D xs).map (·.f0)).Pairwise (· < ·)
  | [], _ => by simp [cnts]
  | x :: r, h => by
    have h' := List.pairwise_cons.1 h
    have ih := cnts_rising D r h'.2
    rw [cnts]
    split
    · rw [List.map_cons, List.pairwise_cons]
      refine ⟨fun y hy => ?_, ih⟩
      obtain ⟨s, hs', rfl⟩ := List.mem_map.1 hy
      exact h'.1 _ ((cnts_mem D s r).1 hs').1
    · exact ih
theorem cn_hist {D : DataW Unit} {F : Int → Int} {n : Nat} {xs : List Int} (h : Cn D F n) (hr : Rising xs) (hm : ∀ x, x ∈ xs ↔ has D (.int .i64 x) = true) : IsHist F (cnts D xs) :=
  ⟨cnts_rising D xs hr, fun s => by
    rw [cnts_mem, h.val]
    constructor
    · rintro ⟨_, h2, h3⟩
      exact ⟨h2, h3⟩
    · rintro ⟨h2, h3⟩
      exact ⟨(hm _).2 (h.has _ (by omega)), h2, h3⟩⟩
/-- How many there are. -/
def tot : List S44 → Int
  | [] => 0
  | s :: r => s.f1 + tot r
theorem tot_snoc (s : S44) : ∀ l : List S44, tot (l ++ [s]) = tot l + s.f1
  | [] => by simp [tot]
  | x :: r => by
    simp only [List.cons_append, tot, tot_snoc s r]
    omega
theorem tot_succ {l : List S44} {k : Nat} (h : k < l.length) : tot (l.take (k + 1)) = tot (l.take k) + (rd_T44 l (k : Int)).f1 := by
  have htk : l.take (k + 1) = l.take k ++ [rd_T44 l (k : Int)] := by
    rw [List.take_succ_eq_append_getElem h]
    simp [rd_T44, List.getD, List.getElem?_eq_getElem h]
  rw [htk, tot_snoc]
theorem rd44 {l : List S44} {i : Nat} (h : i < l.length) : rd_T44 l (i : Int) = l[i] := by simp [rd_T44, List.getD, List.getElem?_eq_getElem h]
theorem rd44_mem {l : List S44} {i : Nat} (h : i < l.length) : rd_T44 l (i : Int) ∈ l := by rw [rd44 h]; exact List.getElem_mem _
theorem tot_append : ∀ (a b : List S44), tot (a ++ b) = tot a + tot b
  | [], b => by simp [tot]
  | s :: r, b => by
    simp only [List.cons_append, tot, tot_append r b]
    omega
theorem tot_nonneg : ∀ l : List S44, (∀ s ∈ l, 0 ≤ s.f1) → 0 ≤ tot l
  | [], _ => Int.le_refl _
  | s :: r, h => by
    have h1 := tot_nonneg r (fun t ht => h t (by simp [ht]))
    have h2 := h s (by simp)
    rw [tot]
    omega
theorem tot_take_le (l : List S44) (k : Nat) (h : ∀ s ∈ l, 0 ≤ s.f1) : 0 ≤ tot (l.take k) ∧ tot (l.take k) ≤ tot l := by
  have h1 := tot_nonneg (l.take k) (fun s hs => h s (List.mem_of_mem_take hs))
  have h2 := tot_nonneg (l.drop k) (fun s hs => h s (List.mem_of_mem_drop hs))
  have h3 := tot_append (l.take k) (l.drop k)
  rw [List.take_append_drop] at h3
  omega
theorem hs_le_tot (x : Int) : ∀ l : List S44, (∀ s ∈ l, 0 ≤ s.f1) → hs l x ≤ tot l
  | [], _ => Int.le_refl _
  | s :: r, h => by
    have h1 := hs_le_tot x r (fun t ht => h t (by simp [ht]))
    have h2 := h s (by simp)
    rw [hs, tot]
    split <;> omega
/-- A histogram as Check wants it: its number of bits, its counts. -/
structure Valid (b : Nat) (l : List S44) : Prop where
  b2 : 2 ≤ b
  b8 : b ≤ 8
  rising : (l.map (·.f0)).Pairwise (· < ·)
  pos : ∀ s ∈ l, 1 ≤ s.f1
  place : ∀ s ∈ l, ∃ a : Nat, s.f0 = (a : Int) ∧ a ≤ (50 - b) * 2 ^ (b - 1) + (2 * 2 ^ (b - 1) - 1)
  total : tot l ≤ 1125899906842624
end Go.Proofs.YtlkameeaaplonaaDoor

/- Go's Len64: the number of bits of a word. -/
namespace Go.Proofs.YtlkameeaaplonaaDoor.QMeasureExpectedMatchesSpec
open Go.RowKit Go.Proofs.YtlkameeaaplonaaDoorW.PrintWords Go.Proofs.YtlkameeaaplonaaDoorW.PrintLast Go.Proofs.YtlkameeaaplonaaDoorW.PrintMore
set_option linter.unusedVariables false
set_option linter.unusedSimpArgs false
theorem w64 {n : Int} (h0 : -9223372036854775808 ≤ n) (h1 : n < 9223372036854775808) : wrap64 n = n := by unfold wrap64; omega
theorem u64w {n : Int} (h0 : 0 ≤ n) (h1 : n < 18446744073709551616) : IntKind.u64.wrap n = n := by rw [IntKind.wrap_u64]; omega
/-- L is the number of bits of n. -/
def isLen (n L : Nat) : Prop := n < 2 ^ L ∧ (L = 0 ∨ 2 ^ (L - 1) ≤ n)
def tab8 : ByteArray := (⟨#[0, 1, 2, 2, 3, 3, 3, 3, 4, 4, 4, 4, 4, 4, 4, 4, 5, 5, 5, 5, 5, 5, 5, 5, 5, 5, 5, 5, 5, 5, 5, 5, 6, 6, 6, 6, 6, 6, 6, 6, 6, 6, 6, 6, 6, 6, 6, 6, 6, 6, 6, 6, 6, 6, 6, 6, 6, 6, 6, 6, 6, 6, 6, 6, 7, 7, 7, 7, 7, 7, 7, 7, 7, 7, 7, 7, 7, 7, 7, 7, 7, 7, 7, 7, 7, 7, 7, 7, 7, 7, 7, 7, 7, 7, 7, 7, 7, 7, 7, 7, 7, 7, 7, 7, 7, 7, 7, 7, 7, 7, 7, 7, 7, 7, 7, 7, 7, 7, 7, 7, 7, 7, 7, 7, 7, 7, 7, 7, 8, 8, 8, 8, 8, 8, 8, 8, 8, 8, 8, 8, 8, 8, 8, 8, 8, 8, 8, 8, 8, 8, 8, 8, 8, 8, 8, 8, 8, 8, 8, 8, 8, 8, 8, 8, 8, 8, 8, 8, 8, 8, 8, 8, 8, 8, 8, 8, 8, 8, 8, 8, 8, 8, 8, 8, 8, 8, 8, 8, 8, 8, 8, 8, 8, 8, 8, 8, 8, 8, 8, 8, 8, 8, 8, 8, 8, 8, 8, 8, 8, 8, 8, 8, 8, 8, 8, 8, 8, 8, 8, 8, 8, 8, 8, 8, 8, 8, 8, 8, 8, 8, 8, 8, 8, 8, 8, 8, 8, 8, 8, 8, 8, 8, 8, 8, 8, 8, 8, 8, 8, 8, 8, 8, 8, 8, 8, 8]⟩ : ByteArray)
set_option maxRecDepth 100000 in
theorem tab8_all : (List.range 256).all (fun i => let L := bt tab8 (i : Int); decide (0 ≤ L ∧ L ≤ 8 ∧ i < 2 ^ L.toNat ∧ (L = 0 ∨ 2 ^ (L.toNat - 1) ≤ i) ∧ (i ≠ 0 → L ≠ 0))) = true := by decide +kernel
theorem tab8_len (i : Nat) (h : i < 256) : ∃ L : Nat, bt tab8 (i : Int) = (L : Int) ∧ L ≤ 8 ∧ isLen i L ∧ (i ≠ 0 → L ≠ 0) := by
  have h1 := List.all_eq_true.mp tab8_all i (List.mem_range.mpr h)
  have h2 := of_decide_eq_true h1
  obtain ⟨a, b, c, d, e⟩ := h2
  refine ⟨(bt tab8 (i : Int)).toNat, by omega, by omega, ⟨c, ?_⟩, fun h => ?_⟩
  · rcases d with d | d
    · left; omega
    · right; exact d
  · have := e h; omega
theorem isLen_shift (n s L : Nat) (h : isLen (n / 2 ^ s) L) (hL : L ≠ 0) : isLen n (L + s) := by
  obtain ⟨h1, h2⟩ := h
  have hp : 0 < 2 ^ s := Nat.pow_pos (by decide)
  refine ⟨?_, .inr ?_⟩
  · rw [Nat.pow_add]; exact (Nat.div_lt_iff_lt_mul hp).mp h1
  · rcases h2 with h2 | h2
    · exact absurd h2 hL
    · rw [show L + s - 1 = L - 1 + s by omega, Nat.pow_add]
      exact (Nat.le_div_iff_mul_le hp).mp h2
set_option maxRecDepth 100000 in
theorem Len64_j0 (n s : Nat) (hn : n < 4294967296) (hs : s ≤ 32) (k : Nat) : ∃ L : Nat, bits_Len64.j0 (k + 1) (n : Int) (s : Int) = some (((L + s : Nat) : Int)) ∧ isLen n L ∧ (n ≠ 0 → L ≠ 0) ∧ L ≤ 32 := by
  rw [bits_Len64.j0]
  rw [show ((⟨#[0, 1, 2, 2, 3, 3, 3, 3, 4, 4, 4, 4, 4, 4, 4, 4, 5, 5, 5, 5, 5, 5, 5, 5, 5, 5, 5, 5, 5, 5, 5, 5, 6, 6, 6, 6, 6, 6, 6, 6, 6, 6, 6, 6, 6, 6, 6, 6, 6, 6, 6, 6, 6, 6, 6, 6, 6, 6, 6, 6, 6, 6, 6, 6, 7, 7, 7, 7, 7, 7, 7, 7, 7, 7, 7, 7, 7, 7, 7, 7, 7, 7, 7, 7, 7, 7, 7, 7, 7, 7, 7, 7, 7, 7, 7, 7, 7, 7, 7, 7, 7, 7, 7, 7, 7, 7, 7, 7, 7, 7, 7, 7, 7, 7, 7, 7, 7, 7, 7, 7, 7, 7, 7, 7, 7, 7, 7, 7, 8, 8, 8, 8, 8, 8, 8, 8, 8, 8, 8, 8, 8, 8, 8, 8, 8, 8, 8, 8, 8, 8, 8, 8, 8, 8, 8, 8, 8, 8, 8, 8, 8, 8, 8, 8, 8, 8, 8, 8, 8, 8, 8, 8, 8, 8, 8, 8, 8, 8, 8, 8, 8, 8, 8, 8, 8, 8, 8, 8, 8, 8, 8, 8, 8, 8, 8, 8, 8, 8, 8, 8, 8, 8, 8, 8, 8, 8, 8, 8, 8, 8, 8, 8, 8, 8, 8, 8, 8, 8, 8, 8, 8, 8, 8, 8, 8, 8, 8, 8, 8, 8, 8, 8, 8, 8, 8, 8, 8, 8, 8, 8, 8, 8, 8, 8, 8, 8, 8, 8, 8, 8, 8, 8, 8, 8, 8, 8]⟩ : ByteArray) : ByteArray) = tab8 from rfl]
  by_cases h1 : 65536 ≤ n
  · by_cases h2 : 256 ≤ n / 65536
    · obtain ⟨L, e, hL, hl, hz⟩ := tab8_len (n / 16777216) (by omega)
      have hz' := hz (by omega)
      have hl' := isLen_shift n 24 L hl hz'
      refine ⟨L + 24, ?_, hl', fun _ => by omega, by omega⟩
      rw [if_pos (by omega), if_pos (by omega), if_pos (by omega), if_pos (by omega), show (n : Int) / 65536 / 256 % 256 = ((n / 16777216 : Nat) : Int) by omega, e, w64 (n := (L : Int)) (by omega) (by omega), w64 (n := (s : Int) + 16) (by omega) (by omega), w64 (n := (s : Int) + 16 + 8) (by omega) (by omega), w64 (by omega) (by omega)]
      congr 1; omega
    · obtain ⟨L, e, hL, hl, hz⟩ := tab8_len (n / 65536) (by omega)
      have hz' := hz (by omega)
      have hl' := isLen_shift n 16 L hl hz'
      refine ⟨L + 16, ?_, hl', fun _ => by omega, by omega⟩
      rw [if_pos (by omega), if_neg (by omega), if_pos (by omega), if_pos (by omega), show (n : Int) / 65536 % 256 = ((n / 65536 : Nat) : Int) by omega, e, w64 (n := (L : Int)) (by omega) (by omega), w64 (n := (s : Int) + 16) (by omega) (by omega), w64 (by omega) (by omega)]
      congr 1; omega
  · by_cases h2 : 256 ≤ n
    · obtain ⟨L, e, hL, hl, hz⟩ := tab8_len (n / 256) (by omega)
      have hz' := hz (by omega)
      have hl' := isLen_shift n 8 L hl hz'
      refine ⟨L + 8, ?_, hl', fun _ => by omega, by omega⟩
      rw [if_neg (by omega), if_pos (by omega), if_pos (by omega), if_pos (by omega), show (n : Int) / 256 % 256 = ((n / 256 : Nat) : Int) by omega, e, w64 (n := (L : Int)) (by omega) (by omega), w64 (n := (s : Int) + 8) (by omega) (by omega), w64 (by omega) (by omega)]
      congr 1; omega
    · obtain ⟨L, e, hL, hl, hz⟩ := tab8_len n (by omega)
      refine ⟨L, ?_, hl, hz, by omega⟩
      rw [if_neg (by omega), if_neg (by omega), if_pos (by omega), if_pos (by omega), show (n : Int) % 256 = (n : Int) by omega, e, w64 (n := (L : Int)) (by omega) (by omega), w64 (by omega) (by omega)]
      congr 1; omega
theorem Len64_eq (n : Nat) (hn : n < 18446744073709551616) (k : Nat) : ∃ L : Nat, bits_Len64.f (k + 1) (n : Int) = some (L : Int) ∧ isLen n L ∧ L ≤ 64 := by
  unfold bits_Len64.f
  by_cases h : 4294967296 ≤ n
  · obtain ⟨L, e, hl, hz, hb⟩ := Len64_j0 (n / 4294967296) 32 (by omega) (by omega) k
    refine ⟨L + 32, ?_, isLen_shift n 32 L hl (hz (by omega)), by omega⟩
    rw [if_pos (by omega), show (n : Int) / 4294967296 = ((n / 4294967296 : Nat) : Int) by omega]
    exact e
  · obtain ⟨L, e, hl, hz, hb⟩ := Len64_j0 n 0 (by omega) (by omega) k
    refine ⟨L, ?_, hl, by omega⟩
    rw [if_neg (by omega)]
    exact e
end Go.Proofs.YtlkameeaaplonaaDoor.QMeasureExpectedMatchesSpec

/- Buckets: what measure and its reference reckon of a value and of a bucket, in closed form. -/
namespace Go.Proofs.YtlkameeaaplonaaDoor.QMeasureExpectedMatchesSpec
open Go.RowKit Go.Proofs.YtlkameeaaplonaaDoorW.PrintWords Go.Proofs.YtlkameeaaplonaaDoorW.PrintLast Go.Proofs.YtlkameeaaplonaaDoorW.PrintMore
set_option linter.unusedVariables false
set_option linter.unusedSimpArgs false
theorem shlN (x y : Nat) (hy : y ≤ 64) (h : x * 2 ^ y < 9223372036854775808) : shl .i64 (x : Int) (y : Int) = ((x * 2 ^ y : Nat) : Int) := by
  unfold shl
  have e1 : min (y : Int).toNat IntKind.i64.bits = y := by
    rw [Int.toNat_natCast]
    exact Nat.min_eq_left hy
  have e2 : ((x : Int) * 2 ^ y) = ((x * 2 ^ y : Nat) : Int) := by simp
  rw [e1, e2, i64_w]
  exact w64 (by omega) (by omega)
theorem shrN (x y : Nat) (hy : y ≤ 64) : shr .i64 (x : Int) (y : Int) = ((x / 2 ^ y : Nat) : Int) := by
  unfold shr
  have e1 : min (y : Int).toNat IntKind.i64.bits = y := by
    rw [Int.toNat_natCast]
    exact Nat.min_eq_left hy
  rw [e1]
  simp
theorem andN (n q : Nat) (hq : q ≤ 62) (hn : n < 9223372036854775808) : Go.bits .and .i64 (n : Int) ((2 ^ q - 1 : Nat) : Int) = ((n % 2 ^ q : Nat) : Int) := by
  have hp : 2 ^ q ≤ 2 ^ 62 := Nat.pow_le_pow_right (by decide) hq
  have hp0 : 0 < 2 ^ q := Nat.pow_pos (by decide)
  have h1 : (BitVec.ofInt 64 ((2 ^ q - 1 : Nat) : Int)).toNat = 2 ^ q - 1 := by
    rw [BitVec.ofInt_natCast, BitVec.toNat_ofNat]
    exact Nat.mod_eq_of_lt (by omega)
  have h2 : (BitVec.ofInt 64 (n : Int)).toNat = n := by
    rw [BitVec.ofInt_natCast, BitVec.toNat_ofNat]
    exact Nat.mod_eq_of_lt (by omega)
  have key : (BitVec.ofInt 64 (n : Int) &&& BitVec.ofInt 64 ((2 ^ q - 1 : Nat) : Int)).toNat = n % 2 ^ q := by
    rw [BitVec.toNat_and, h1, h2, Nat.and_two_pow_sub_one_eq_mod]
  show IntKind.i64.wrap ((BitVec.ofInt 64 (n : Int) &&& BitVec.ofInt 64 ((2 ^ q - 1 : Nat) : Int)).toNat : Nat) = _
  have hm : n % 2 ^ q ≤ n := Nat.mod_le _ _
  rw [key, i64_w]
  generalize n % 2 ^ q = r at hm
  exact w64 (by omega) (by omega)

/-- The number of bits b, p = 2^(b - 1), and how many doublings there are. -/
structure Par (b p J : Nat) : Prop where
  b2 : 2 ≤ b
  b8 : b ≤ 8
  hp : p = 2 ^ (b - 1)
  pb : 2 ^ b = 2 * p
  p2 : 2 ≤ p
  p128 : p ≤ 128
  hJ : b + J = 50
  pow : 2 * p * 2 ^ J = 1125899906842624
theorem par_of (b : Nat) (h2 : 2 ≤ b) (h8 : b ≤ 8) : Par b (2 ^ (b - 1)) (50 - b) := by
  have : b = 2 ∨ b = 3 ∨ b = 4 ∨ b = 5 ∨ b = 6 ∨ b = 7 ∨ b = 8 := by omega
  rcases this with rfl | rfl | rfl | rfl | rfl | rfl | rfl <;> exact ⟨by decide, by decide, rfl, by decide, by decide, by decide, by decide, by decide⟩
section
variable {b p J : Nat} (P : Par b p J)
include P
theorem sb : shl .i64 1 (b : Int) = ((2 * p : Nat) : Int) := by
  have := shlN 1 b (by have := P.b8; omega) (by rw [P.pb]; have := P.p128; omega)
  rw [Nat.one_mul, P.pb] at this
  exact this
theorem bm1 : wrap64 ((b : Int) - 1) = ((b - 1 : Nat) : Int) := by
  have := P.b2
  have := P.b8
  rw [w64 (by omega) (by omega)]
  omega
theorem sp : shl .i64 1 ((b - 1 : Nat) : Int) = (p : Int) := by
  have h := shlN 1 (b - 1) (by have := P.b8; omega) (by rw [Nat.one_mul, ← P.hp]; have := P.p128; omega)
  rw [Nat.one_mul, ← P.hp] at h
  exact h
theorem spm (x : Nat) (h : x * p < 9223372036854775808) : shl .i64 (x : Int) ((b - 1 : Nat) : Int) = ((x * p : Nat) : Int) := by
  have h := shlN x (b - 1) (by have := P.b8; omega) (by rw [← P.hp]; exact h)
  rw [← P.hp] at h
  exact h
end
theorem addN (x y : Nat) (h : x + y < 9223372036854775808) : wrap64 ((x : Int) + (y : Int)) = ((x + y : Nat) : Int) := by
  rw [w64 (by omega) (by omega)]
  omega
theorem subN (x y : Nat) (hxy : y ≤ x) (h : x < 9223372036854775808) : wrap64 ((x : Int) - (y : Int)) = ((x - y : Nat) : Int) := by
  rw [w64 (by omega) (by omega)]
  omega
theorem mulN (x y : Nat) (h : x * y < 9223372036854775808) : wrap64 ((x : Int) * (y : Int)) = ((x * y : Nat) : Int) := by
  rw [← Int.natCast_mul]
  exact w64 (by omega) (by omega)
theorem sub1N (x : Nat) (h0 : 1 ≤ x) (h : x < 9223372036854775808) : wrap64 ((x : Int) - 1) = ((x - 1 : Nat) : Int) := subN x 1 h0 h
theorem add1N (x : Nat) (h : x + 1 < 9223372036854775808) : wrap64 ((x : Int) + 1) = ((x + 1 : Nat) : Int) := addN x 1 h
theorem dblN (x : Nat) (h : 2 * x < 9223372036854775808) : wrap64 (2 * (x : Int)) = ((2 * x : Nat) : Int) := mulN 2 x h
end Go.Proofs.YtlkameeaaplonaaDoor.QMeasureExpectedMatchesSpec

/- The bucket of a value, by measure and by its reference. -/
namespace Go.Proofs.YtlkameeaaplonaaDoor.QMeasureExpectedMatchesSpec
open Go.RowKit Go.Proofs.YtlkameeaaplonaaDoorW.PrintWords Go.Proofs.YtlkameeaaplonaaDoorW.PrintLast Go.Proofs.YtlkameeaaplonaaDoorW.PrintMore
set_option linter.unusedVariables false
set_option linter.unusedSimpArgs false
theorem lt50 {x : Nat} (h : 2 ^ x < 1125899906842624) : x < 50 := by
  rw [show (1125899906842624 : Nat) = 2 ^ 50 from by decide] at h
  exact (Nat.pow_lt_pow_iff_right (by decide)).1 h
section
variable {b p J : Nat} (P : Par b p J)
include P
theorem pw_split (j : Nat) : p * 2 ^ (j + 1) = 2 ^ (b + j) := by
  rw [P.hp, ← Nat.pow_add]
  congr 1
  have := P.b2
  omega
theorem pw_split2 (j : Nat) : 2 * p * 2 ^ (j + 1) = 2 ^ (b + j + 1) := by
  rw [Nat.mul_assoc, pw_split P, Nat.pow_succ]
  omega
/-- What is known of a value with j + 1 doublings. -/
theorem dbl_facts {v j : Nat} (h1 : p * 2 ^ (j + 1) ≤ v) (h2 : v < 2 * p * 2 ^ (j + 1)) (hv : v < 1125899906842624) : j < 50 ∧ p ≤ v / 2 ^ (j + 1) ∧ v / 2 ^ (j + 1) < 2 * p := by
  have hp0 : 0 < 2 ^ (j + 1) := Nat.pow_pos (by decide)
  refine ⟨?_, (Nat.le_div_iff_mul_le hp0).2 h1, (Nat.div_lt_iff_lt_mul hp0).2 h2⟩
  have h3 := lt50 (x := b + j) (by rw [← pw_split P]; omega)
  omega
theorem bucket_lo (v k : Nat) (hv : v < 2 * p) : measure_bucket.f k (b : Int) (v : Int) = some (v : Int) := by
  unfold measure_bucket.f
  rw [if_pos (by omega), sb P, if_pos (by omega)]
theorem bucket_hi (v j k : Nat) (h1 : p * 2 ^ (j + 1) ≤ v) (h2 : v < 2 * p * 2 ^ (j + 1)) (hv : v < 1125899906842624) :
    measure_bucket.f (k + 1) (b : Int) (v : Int) = some (((j + 1) * p + v / 2 ^ (j + 1) : Nat) : Int) := by
  obtain ⟨hj, hm1, hm2⟩ := dbl_facts P h1 h2 hv
  obtain ⟨L, e, ⟨hl1, hl2⟩, hl3⟩ := Len64_eq v (by omega) k
  have hpos : 2 * p ≤ v := by
    have : p * 2 ≤ p * 2 ^ (j + 1) := Nat.mul_le_mul_left p (by rw [Nat.pow_succ]; have := Nat.pow_pos (n := j) (show 0 < 2 by decide); omega)
    omega
  have hL : L = b + j + 1 := by
    rw [pw_split P] at h1
    rw [pw_split2 P] at h2
    have a1 : b + j < L := (Nat.pow_lt_pow_iff_right (a := 2) (by decide)).1 (Nat.lt_of_le_of_lt h1 hl1)
    rcases hl2 with hl2 | hl2
    · omega
    · have a2 : L - 1 < b + j + 1 := (Nat.pow_lt_pow_iff_right (a := 2) (by decide)).1 (Nat.lt_of_le_of_lt hl2 h2)
      omega
  clear hl1 hl2 hl3
  subst hL
  have hb8 := P.b8
  have hp := P.p128
  have hp2 := P.p2
  have hjp : j * p ≤ 6400 := Nat.le_trans (Nat.mul_le_mul (show j ≤ 50 by omega) hp) (by decide)
  unfold measure_bucket.f
  have elen : bits_Len.f (k + 1) (v : Int) = some ((b + j + 1 : Nat) : Int) := by
    unfold bits_Len.f
    rw [e]
    rfl
  clear e
  rw [if_pos (by omega), sb P, if_neg (by omega), u64w (n := (v : Int)) (by omega) (by omega), elen, Option.bind_some, bm1 P, if_pos (by omega), subN (b + j + 1) b (by omega) (by omega), if_pos (by omega), sub1N _ (by omega) (by omega),
    show b + j + 1 - b - 1 = j from by omega, spm P j (by omega), addN (2 * p) (j * p) (by omega), show b + j + 1 - b = j + 1 from by omega, shrN v (j + 1) (by omega), sp P]
  generalize v / 2 ^ (j + 1) = m at hm1 hm2
  have e1 : (j + 1) * p = j * p + p := Nat.succ_mul j p
  rw [addN _ _ (by omega), subN _ _ (by omega) (by omega), e1]
  congr 2
  omega

end
end Go.Proofs.YtlkameeaaplonaaDoor.QMeasureExpectedMatchesSpec

/- The limits of a bucket, by measure and by its reference. -/
namespace Go.Proofs.YtlkameeaaplonaaDoor.QMeasureExpectedMatchesSpec
open Go.RowKit Go.Proofs.YtlkameeaaplonaaDoorW.PrintWords Go.Proofs.YtlkameeaaplonaaDoorW.PrintLast Go.Proofs.YtlkameeaaplonaaDoorW.PrintMore
set_option linter.unusedVariables false
set_option linter.unusedSimpArgs false
section
variable {b p J : Nat} (P : Par b p J)
include P
theorem pw_le {i : Nat} (h : i ≤ J) : 2 * p * 2 ^ i ≤ 1125899906842624 := by
  rw [← P.pow]
  exact Nat.mul_le_mul_left _ (Nat.pow_le_pow_right (by decide) h)
end
end Go.Proofs.YtlkameeaaplonaaDoor.QMeasureExpectedMatchesSpec

/- Bucket and Limits return what is specified, and a value is within the limits of its bucket. -/
namespace Go.Proofs.YtlkameeaaplonaaDoor.QMeasureExpectedMatchesSpec
open Go.RowKit Go.Proofs.YtlkameeaaplonaaDoorW.PrintWords Go.Proofs.YtlkameeaaplonaaDoorW.PrintLast Go.Proofs.YtlkameeaaplonaaDoorW.PrintMore
set_option linter.unusedVariables false
set_option linter.unusedSimpArgs false
theorem mform (x : Int) : measure_bitsForm.f x = some (decide (2 ≤ x ∧ x ≤ 8)) := by
  unfold measure_bitsForm.f
  by_cases h : 2 ≤ x
  · rw [if_pos h]; simp [h]
  · rw [if_neg h]; simp [h]
section
variable {b p J : Nat} (P : Par b p J)
include P
/-- A value below all: no doubling, or so many. -/
theorem value_cases (v : Nat) (hv : v < 1125899906842624) : v < 2 * p ∨ ∃ j, p * 2 ^ (j + 1) ≤ v ∧ v < 2 * p * 2 ^ (j + 1) ∧ j + 1 ≤ J := by
  have hp2 := P.p2
  have h0 : v < 2 * p ∨ 2 * p ≤ v := by omega
  rcases h0 with h0 | h0
  · exact .inl h0
  · refine .inr ?_
    have key : ∀ d : Nat, v < 2 * p * 2 ^ (d + 1) → ∃ j, j ≤ d ∧ p * 2 ^ (j + 1) ≤ v ∧ v < 2 * p * 2 ^ (j + 1) := by
      intro d
      induction d with
      | zero =>
        intro h
        exact ⟨0, Nat.le_refl _, by omega, h⟩
      | succ d ih =>
        intro h
        by_cases h2 : v < 2 * p * 2 ^ (d + 1)
        · obtain ⟨j, h3, h4⟩ := ih h2
          exact ⟨j, by omega, h4⟩
        · refine ⟨d + 1, Nat.le_refl _, ?_, h⟩
          have e : p * 2 ^ (d + 1 + 1) = 2 * p * 2 ^ (d + 1) := by rw [Nat.pow_succ, Nat.mul_comm 2 p, Nat.mul_assoc, Nat.mul_comm (2 ^ (d + 1)) 2]
          omega
    have hJ := P.hJ
    have hb8 := P.b8
    obtain ⟨j, h1, h2, h3⟩ := key (J - 1) (by rw [show J - 1 + 1 = J from by omega, P.pow]; exact hv)
    exact ⟨j, h2, h3, by omega⟩
theorem bucket_top (k : Nat) : measure_bucket.f (k + 1) (b : Int) 1125899906842623 = some ((J * p + (2 * p - 1) : Nat) : Int) := by
  have hJ := P.hJ
  have hb8 := P.b8
  have hp2 := P.p2
  have hpow := P.pow
  have e1 : p * 2 ^ J + p * 2 ^ J = 1125899906842624 := by rw [← hpow, Nat.mul_assoc]; omega
  have hs0 : 0 < 2 ^ J := Nat.pow_pos (by decide)
  have h := bucket_hi P 1125899906842623 (J - 1) k (by rw [show J - 1 + 1 = J from by omega]; omega) (by rw [show J - 1 + 1 = J from by omega, hpow]; decide) (by decide)
  rw [show J - 1 + 1 = J from by omega] at h
  have e2 : 1125899906842623 / 2 ^ J = 2 * p - 1 := by
    have a1 : 2 * p - 1 ≤ 1125899906842623 / 2 ^ J := by
      rw [Nat.le_div_iff_mul_le hs0, Nat.sub_mul, hpow, Nat.one_mul]
      omega
    have a2 : 1125899906842623 / 2 ^ J < 2 * p := by
      rw [Nat.div_lt_iff_lt_mul hs0, hpow]
      decide
    omega
  rw [e2] at h
  exact h
theorem decomp (n : Nat) (hn : 2 * p ≤ n) : ∃ j t, t < p ∧ n = (j + 1) * p + (p + t) := by
  have hp2 := P.p2
  refine ⟨(n - 2 * p) / p, (n - 2 * p) % p, Nat.mod_lt _ (by omega), ?_⟩
  have h := Nat.div_add_mod (n - 2 * p) p
  rw [Nat.succ_mul, Nat.mul_comm ((n - 2 * p) / p) p]
  omega
theorem valid_iff {j t : Nat} (ht : t < p) : (j + 1) * p + (p + t) ≤ J * p + (2 * p - 1) ↔ j + 1 ≤ J := by
  have hp2 := P.p2
  constructor
  · intro h
    by_cases hj : j + 1 ≤ J
    · exact hj
    · have : (J + 1) * p ≤ (j + 1) * p := Nat.mul_le_mul_right p (by omega)
      have e : (J + 1) * p = J * p + p := Nat.succ_mul J p
      omega
  · intro h
    have : (j + 1) * p ≤ J * p := Nat.mul_le_mul_right p h
    omega
omit P in
theorem lo_valid {n : Nat} (hn : n < 2 * p) : n ≤ J * p + (2 * p - 1) := by
  have : 0 ≤ J * p := Nat.zero_le _
  omega
end
end Go.Proofs.YtlkameeaaplonaaDoor.QMeasureExpectedMatchesSpec

/- The bucket of a value. Condition: the number of bits is right. -/
namespace Go.Proofs.YtlkameeaaplonaaDoor
open Go.RowKit Go.Proofs.YtlkameeaaplonaaDoor.QMeasureExpectedMatchesSpec Go.Proofs.YtlkameeaaplonaaDoorW.PrintWords Go.Proofs.YtlkameeaaplonaaDoorW.PrintLast Go.Proofs.YtlkameeaaplonaaDoorW.PrintMore
set_option linter.unusedVariables false
set_option linter.unusedSimpArgs false
/-- The bucket of a value. -/
def bkt (b : Nat) (v : Int) : Int := (measure_bucket.f 1 (b : Int) v).getD 0
section
variable {b p J : Nat} (P : Par b p J)
include P
theorem bkt_lo (v : Nat) (hv : v < 2 * p) : bkt b (v : Int) = (v : Int) := by
  unfold bkt
  rw [bucket_lo P v 1 hv]
  rfl
theorem bkt_hi (v j : Nat) (h1 : p * 2 ^ (j + 1) ≤ v) (h2 : v < 2 * p * 2 ^ (j + 1)) (hv : v < 1125899906842624) : bkt b (v : Int) = (((j + 1) * p + v / 2 ^ (j + 1) : Nat) : Int) := by
  unfold bkt
  rw [bucket_hi P v j 0 h1 h2 hv]
  rfl
theorem bkt_spec (v k : Nat) (hv : v < 1125899906842624) : measure_bucket.f (k + 1) (b : Int) (v : Int) = some (bkt b (v : Int)) ∧ ∃ a : Nat, bkt b (v : Int) = (a : Int) ∧ a ≤ J * p + (2 * p - 1) := by
  rcases value_cases P v hv with h0 | ⟨j, h1, h2, hj⟩
  · exact ⟨by rw [bkt_lo P v h0]; exact bucket_lo P v (k + 1) h0, v, bkt_lo P v h0, lo_valid h0⟩
  · obtain ⟨hj50, hm1, hm2⟩ := dbl_facts P h1 h2 hv
    have e0 : p + (v / 2 ^ (j + 1) - p) = v / 2 ^ (j + 1) := by omega
    have ht : v / 2 ^ (j + 1) - p < p := by omega
    have hval := (valid_iff P ht).2 hj
    rw [e0] at hval
    exact ⟨by rw [bkt_hi P v j h1 h2 hv]; exact bucket_hi P v j k h1 h2 hv, _, bkt_hi P v j h1 h2 hv, hval⟩
end
/-- The greatest bucket. -/
abbrev top (b : Nat) : Nat := (50 - b) * 2 ^ (b - 1) + (2 * 2 ^ (b - 1) - 1)
theorem top_le (b : Nat) (h2 : 2 ≤ b) (h8 : b ≤ 8) : top b ≤ 6655 := by
  have : b = 2 ∨ b = 3 ∨ b = 4 ∨ b = 5 ∨ b = 6 ∨ b = 7 ∨ b = 8 := by omega
  rcases this with rfl | rfl | rfl | rfl | rfl | rfl | rfl <;> decide
/-- A value that is good. -/
abbrev okV (v : Int) : Prop := 0 ≤ v ∧ v < 1125899906842624
theorem bkt_ok {b : Nat} (h2 : 2 ≤ b) (h8 : b ≤ 8) {v : Int} (hv : okV v) : (∀ k, measure_bucket.f (k + 1) (b : Int) v = some (bkt b v)) ∧ (∃ a : Nat, bkt b v = (a : Int) ∧ a ≤ top b) ∧ 0 ≤ bkt b v ∧ bkt b v ≤ 6655 := by
  obtain ⟨m, rfl⟩ := Int.eq_ofNat_of_zero_le hv.1
  have P := par_of b h2 h8
  have hm : m < 1125899906842624 := by omega
  obtain ⟨a, h3, h4⟩ := (bkt_spec P m 0 hm).2
  have h5 := top_le b h2 h8
  replace h4 : a ≤ top b := h4
  exact ⟨fun k => (bkt_spec P m k hm).1, ⟨a, h3, h4⟩, by omega, by omega⟩
/-- A tally is a histogram. -/
theorem tally_hist {bs : List Int} {r : List S44} (h : IsTally bs r) : IsHist (fun y => (bs.count y : Int)) r :=
  ⟨h.rising, fun s => by
    rw [h.mem]
    constructor
    · rintro ⟨h1, h2⟩
      have := List.count_pos_iff.2 h1
      exact ⟨h2, by omega⟩
    · rintro ⟨h1, h2⟩
      refine ⟨List.count_pos_iff.1 (by omega), h1⟩⟩
/-- What a tally has in the buckets that are sent to y. -/
theorem countP_and (p : Int → Bool) (a : Int) (t : List Int) (h : a ∉ t) : ∀ bs : List Int, bs.countP (fun z => decide (z ∈ a :: t) && p z) = (if p a then bs.count a else 0) + bs.countP (fun z => decide (z ∈ t) && p z)
  | [] => by simp
  | y :: bs => by
    rw [List.countP_cons, List.count_cons, List.countP_cons, countP_and p a t h bs]
    by_cases hy : y = a
    · subst hy
      by_cases hp : p y
      · simp [h, hp]
        omega
      · simp [h, hp]
    · by_cases ht : y ∈ t
      · by_cases hp : p y
        · by_cases hpa : p a
          · simp [hy, ht, hp, hpa]
            omega
          · simp [hy, ht, hp, hpa]
        · by_cases hpa : p a
          · simp [hy, ht, hp, hpa]
          · simp [hy, ht, hp, hpa]
      · simp [hy, ht]
theorem hs_map_count (g : Int → Int) (bs : List Int) (y : Int) : ∀ l : List S44, (l.map (·.f0)).Pairwise (· < ·) → (∀ s ∈ l, s.f1 = (bs.count s.f0 : Int)) →
    hs (l.map fun s => ⟨g s.f0, s.f1⟩) y = (bs.countP (fun z => decide (z ∈ l.map (·.f0)) && (g z == y)) : Int)
  | [], _, _ => by simp [hs]
  | s :: r, hp, hm => by
    rw [List.map_cons, List.pairwise_cons] at hp
    have hn : s.f0 ∉ r.map (·.f0) := fun h => by have := hp.1 _ h; omega
    have ih := hs_map_count g bs y r hp.2 (fun t ht => hm t (by simp [ht]))
    rw [List.map_cons, hs, ih, List.map_cons, countP_and (fun z => g z == y) s.f0 _ hn]
    have h1 := hm s (by simp)
    by_cases hg : g s.f0 = y
    · rw [if_pos hg, if_pos (by simpa using hg), h1]
      omega
    · rw [if_neg hg, if_neg (by simpa using hg)]
      omega
theorem hist_map_count (g : Int → Int) {bs : List Int} {l : List S44} (h : IsHist (fun y => (bs.count y : Int)) l) (y : Int) : hs (l.map fun s => ⟨g s.f0, s.f1⟩) y = ((bs.map g).count y : Int) := by
  rw [hs_map_count g bs y l h.rising (fun s hs' => ((h.mem s).1 hs').1), List.count, List.countP_map]
  congr 1
  refine List.countP_congr fun z hz => ?_
  have hz' : z ∈ l.map (·.f0) := by
    have hc := List.count_pos_iff.2 hz
    have := (h.mem ⟨z, (bs.count z : Int)⟩).2 ⟨rfl, by show (0 : Int) < (bs.count z : Int); omega⟩
    exact List.mem_map.2 ⟨_, this, rfl⟩
  show (decide (z ∈ l.map (·.f0)) && (g z == y)) = true ↔ ((· == y) ∘ g) z = true
  rw [decide_eq_true hz', Bool.true_and]
  rfl
theorem hist_tot {bs : List Int} {l : List S44} (h : IsHist (fun y => (bs.count y : Int)) l) : tot l = (bs.length : Int) := by
  have h1 := hist_map_count (fun _ => 0) h 0
  have h2 : ∀ l : List S44, hs (l.map fun s => ⟨0, s.f1⟩) 0 = tot l := fun l => by
    induction l with
    | nil => rfl
    | cons s r ih => rw [List.map_cons, hs, if_pos rfl, ih, tot]
  rw [← h2, h1]
  congr 1
  rw [List.count_eq_length.2 (fun b hb => by obtain ⟨_, _, rfl⟩ := List.mem_map.1 hb; rfl), List.length_map]
theorem tot_ge_len : ∀ l : List S44, (∀ s ∈ l, 0 < s.f1) → (l.length : Int) ≤ tot l
  | [], _ => by simp [tot]
  | s :: r, h => by
    have := tot_ge_len r (fun t ht => h t (by simp [ht]))
    have := h s (by simp)
    simp only [tot, List.length_cons]
    omega
theorem tally_len' {bs : List Int} {l : List S44} (h : IsTally bs l) : l.length ≤ bs.length := by
  have h1 := hist_tot (tally_hist h)
  have h2 := tot_ge_len l (tally_hist h).pos
  omega
end Go.Proofs.YtlkameeaaplonaaDoor

/- What a function hands back, a histogram and an error, and what is told of it. Conditions: what is told is short and in 64 bits; the table of powers of ten lies below. -/
namespace Go.Proofs.YtlkameeaaplonaaDoor
open Go.Shelf Go.RowKit Go.Maps Go.Proofs.YtlkameeaaplonaaDoor.QMeasureExpectedMatchesSpec
open Go.Proofs.YtlkameeaaplonaaDoorW.PrintWords Go.Proofs.YtlkameeaaplonaaDoorW.PrintLast Go.Proofs.YtlkameeaaplonaaDoorW.PrintMore
set_option linter.unusedVariables false
abbrev Res := Int × List S44 × Int
/-- What can be told. -/
def Tell (r : Res) : Prop := in64 r.1 ∧ in64 r.2.2 ∧ r.2.1.length ≤ 1000000 ∧ ∀ s ∈ r.2.1, in64 s.f0 ∧ in64 s.f1
/-- Function f hands back r. -/
abbrev Ans (f : Nat) (args : Array Value) (w : World) (r : Res) : Prop := Calls Tryd.prog f args w fun e w' => ∃ (P : Option Addr) (d : Nat), e = .returned (.tuple #[.agg #[.int .i64 r.1, .slice P r.2.1.length d], .int .i64 r.2.2]) ∧ r.2.1.length ≤ d ∧ Kd.C k44 w' P r.2.1.length r.2.1 ∧ Below w.heap.size w w'
abbrev Pow10 (w : World) : Prop := Lib.TabBelow Tryd.prog w.heap.size w "internal/strconv.uint64pow10" .u64 Lib.pow10Tab
theorem tellRes (r : Res) (hT : Tell r) {w W : World} {P : Option Addr} {d : Nat} (hC : Kd.C k44 W P r.2.1.length r.2.1) (hU : Below w.heap.size w W) (htab : Pow10 w) :
    Calls Tryd.prog 11 #[.agg #[.int .i64 r.1, .slice P r.2.1.length d], .int .i64 r.2.2] W fun e w' => e = .returned (.string (toldS r.1 r.2.1 r.2.2)) ∧ Below W.heap.size W w' :=
  told11 r.1 r.2.2 P d r.2.1 W hT.1 hT.2.1 hT.2.2.1 hT.2.2.2 hC (fun w' hw' => htab w' (hU.trans (Below.mono hw' hU.size)))
theorem tell_fault {e : Int} (h : 0 ≤ e ∧ e ≤ 20) : Tell (0, [], e) := ⟨⟨show (-9223372036854775808 : Int) ≤ 0 by decide, show (0 : Int) ≤ 9223372036854775807 by decide⟩, ⟨show (-9223372036854775808 : Int) ≤ e by omega, show e ≤ 9223372036854775807 by omega⟩, by simp, by simp⟩
theorem C_nil (w : World) : Kd.C k44 w none 0 [] := ⟨rfl, by omega, fun h => absurd h (by omega)⟩
/-- From the printed form. -/
theorem ans_of_R {f : Nat} {args : Array Value} {w : World} {r : Res} (h : Calls Tryd.prog f args w fun e w' => ∃ v1_ : Value, e = .returned (.tuple #[.agg #[.int .i64 r.1, v1_], .int .i64 r.2.2]) ∧ Kd.R k44 44 w' w.heap.size (fun _ => True) v1_ r.2.1 ∧ Below w.heap.size w w') : Ans f args w r :=
  h.mono fun e w' ⟨v, he, hR, hB⟩ => by
    obtain ⟨A, c, rfl, hc, hC⟩ := Kd.R_reads hR
    exact ⟨A, c, he, hc, hC, hB⟩
theorem ans_of_V {w' : World} {base : Nat} {ok : Nat → Prop} {v : Value} {l : List S44} (h : Kd.V k44 44 w' base ok v l) : ∃ P d, v = .slice P l.length d ∧ l.length ≤ d ∧ Kd.C k44 w' P l.length l := by
  obtain ⟨P, d, rfl⟩ := Kd.V_slice h
  obtain ⟨_, h2, h3⟩ := Kd.V_reads' h
  exact ⟨P, d, rfl, h2, h3⟩
/-- The box at g holds a histogram. -/
abbrev hbx (bits : Int) (P : Option Addr) (n c : Nat) : Obj := .cells #[.int .i64 bits, .slice P n c] 25 (0, 0)
theorem bx_cells {W : World} {g n c : Nat} {bits : Int} {P : Option Addr} (h : W.heap[g]? = some (hbx bits P n c)) : W.cell? ⟨g, 0, none⟩ = some (.int .i64 bits) ∧ W.cell? ⟨g, 1, none⟩ = some (.slice P n c) :=
  ⟨by simp only [World.cell?, h]; rfl, by simp only [World.cell?, h]; rfl⟩
theorem bx_free {W : World} {g n c : Nat} {bits : Int} {P : Option Addr} (h : W.heap[g]? = some (hbx bits P n c)) : W.frozen? ⟨g, 0, none⟩ = false ∧ W.frozen? ⟨g, 1, none⟩ = false :=
  ⟨by simp [World.frozen?, h], by simp [World.frozen?, h]⟩
/-- The result's two cells, stored. -/
theorem bx_store {W : World} {g n c : Nat} {bits : Int} {P : Option Addr} (h : W.heap[g]? = some (hbx bits P n c)) (bits' : Int) (P' : Option Addr) (n' c' : Nat) : ((W.setCell ⟨g, 0, none⟩ (.int .i64 bits')).setCell ⟨g, 1, none⟩ (.slice P' n' c')).heap[g]? = some (hbx bits' P' n' c') := by
  have f0 := heap_setCell_same _ g 0 _ 25 (.int .i64 bits') h
  have f1 := heap_setCell_same _ g 1 _ 25 (.slice P' n' c') f0
  simpa using f1
theorem bx_alloc (w : World) (bits : Int) (P : Option Addr) (n c : Nat) : (w.alloc (.cells #[.int .i64 bits, .slice P n c] 25)).heap[w.heap.size]? = some (hbx bits P n c) := heap_alloc_new w _
theorem V_store {w5 : World} {base g c n : Nat} {P : Option Addr} {l : List S44} (h : Kd.V k44 44 w5 base (fun k => base ≤ k) (.slice P n c) l) (hg : g < base) (x y : Value) : Kd.C k44 ((w5.setCell ⟨g, 0, none⟩ x).setCell ⟨g, 1, none⟩ y) P l.length l :=
  (Kd.V_reads' (Kd.V_far (Kd.V_far h (p := ⟨g, 0, none⟩) (fun k hk e => by have e' : k = g := e; omega) x) (p := ⟨g, 1, none⟩) (fun k hk e => by have e' : k = g := e; omega) y)).2.2
/-- Function f hands back r, in cells of its own. -/
abbrev AnsV (f : Nat) (args : Array Value) (w : World) (r : Res) : Prop := Calls Tryd.prog f args w fun e w' => ∃ (P : Option Addr) (d : Nat), e = .returned (.tuple #[.agg #[.int .i64 r.1, .slice P r.2.1.length d], .int .i64 r.2.2]) ∧ Kd.V k44 44 w' w.heap.size (fun k => w.heap.size ≤ k) (.slice P r.2.1.length d) r.2.1 ∧ Below w.heap.size w w'
theorem ans_of {f : Nat} {args : Array Value} {w : World} {r : Res} (h : AnsV f args w r) : Ans f args w r :=
  h.mono fun e w' ⟨P, d, he, hV, hB⟩ => ⟨P, d, he, (Kd.V_reads' hV).2.1, (Kd.V_reads' hV).2.2, hB⟩
theorem V_store2 {w5 : World} {B base g c n : Nat} {P : Option Addr} {l : List S44} (h : Kd.V k44 44 w5 base (fun k => base ≤ k) (.slice P n c) l) (hg : g < base) (hB : B ≤ base) (x y : Value) : Kd.V k44 44 ((w5.setCell ⟨g, 0, none⟩ x).setCell ⟨g, 1, none⟩ y) B (fun k => B ≤ k) (.slice P n c) l :=
  Kd.V_lower (Kd.V_mono (Kd.V_far (Kd.V_far h (p := ⟨g, 0, none⟩) (fun k hk e => by have e' : k = g := e; omega) x) (p := ⟨g, 1, none⟩) (fun k hk e => by have e' : k = g := e; omega) y) (fun k hk => by omega)) hB
end Go.Proofs.YtlkameeaaplonaaDoor

/- tallyOf: a map of what a histogram counts. Conditions: the buckets rise, there are at most a million, the numbers are in 64 bits. -/
namespace Go.Proofs.YtlkameeaaplonaaDoor
open Go.Shelf Go.RowKit Go.Maps Go.Proofs.YtlkameeaaplonaaDoor.QMeasureExpectedMatchesSpec
open Go.Proofs.YtlkameeaaplonaaDoorW.PrintWords
theorem hs_ahead {l : List S44} (hr : (l.map (·.f0)).Pairwise (· < ·)) (k : Nat) (hk : k < l.length) : hs (l.take k) (rd_T44 l (k : Int)).f0 = 0 := by
  refine hs_zero _ _ fun s hs' e => ?_
  obtain ⟨j, hj, rfl⟩ := List.mem_iff_getElem.1 hs'
  rw [List.length_take] at hj
  rw [List.getElem_take, rd44 hk] at e
  have := List.pairwise_iff_getElem.1 hr j k (by rw [List.length_map]; omega) (by rw [List.length_map]; omega) (by omega)
  simp only [List.getElem_map] at this
  omega
theorem hs_take (l : List S44) (k : Nat) (hk : k < l.length) (y : Int) : hs (l.take (k + 1)) y = hs (l.take k) y + if (rd_T44 l (k : Int)).f0 = y then (rd_T44 l (k : Int)).f1 else 0 := by
  have htk : l.take (k + 1) = l.take k ++ [rd_T44 l (k : Int)] := by rw [List.take_succ_eq_append_getElem hk, rd44 hk]
  rw [htk, hs_snoc]
theorem cn_next {D : DataW Unit} {l : List S44} (hr : (l.map (·.f0)).Pairwise (· < ·)) (k : Nat) (hk : k < l.length) (h : Cn D (hs (l.take k)) k) :
    Cn (D.put (.int .i64 (rd_T44 l (k : Int)).f0) (.lit (.int .i64 (rd_T44 l (k : Int)).f1))) (hs (l.take (k + 1))) (k + 1) :=
  (h.put _ _).congr fun y => by
    rw [hs_take l k hk]
    by_cases e : (rd_T44 l (k : Int)).f0 = y
    · rw [if_pos e, if_pos e, ← e, hs_ahead hr k hk]
      omega
    · rw [if_neg e, if_neg e]
      omega
theorem cn_atKey {D : DataW Unit} {F : Int → Int} {n m b : Nat} {w : World} (h : Cn D F n) (hown : w.ownsMap Tryd.prog 3 (plainElem Tryd.prog 3) b m D) (x : Int) (hx : (Lit.int .i64 x).wf = true) :
    D.atKey (.int .i64 x) (.lit (.int .i64 0)) = .lit (.int .i64 (F x)) := by
  obtain ⟨c0, _, h0, _⟩ := hown.lookup_int law3 Tryd.underlying58 Tryd.underlying3 (zero3 _) (keyOf_int_mk Tryd.underlying3 hx)
  have := h.val x
  unfold Go.Proofs.YtlkameeaaplonaaDoor.val at this
  rw [h0] at this
  rw [h0, ← this]
set_option maxRecDepth 100000 in
set_option maxHeartbeats 4000000 in
theorem tallyOfG (bits : Int) (A : Option Addr) (c : Nat) (l : List S44) (w : World) (hC : Kd.C k44 w A l.length l) (hr : (l.map (·.f0)).Pairwise (· < ·)) (hl : l.length ≤ 1000000) (hwf : ∀ s ∈ l, (Lit.int .i64 s.f0).wf = true ∧ (Lit.int .i64 s.f1).wf = true) :
    Calls Tryd.prog 37 #[.agg #[.int .i64 bits, .slice A l.length c]] w fun e w' => ∃ b D, e = .returned (.map (some b)) ∧ w.heap.size ≤ b ∧ w'.ownsMap Tryd.prog 3 (plainElem Tryd.prog 3) b l.length D ∧ Cn D (hs l) l.length ∧ Below w.heap.size w w' := by
  have hmm := @run_makeMap Tryd.prog
  go_enter Tryd.func37, Tryd.ntmps37
  go_wp2
  have em : (w.alloc (.cells #[.int .i64 bits, .slice A l.length c] 25)).heap.size = w.heap.size + 1 := by simp
  go_loopw [10] (fun i wr => ∃ (k : Nat) (D : DataW Unit), k ≤ l.length ∧ i = .int .i64 k ∧ wr.ownsMap Tryd.prog 3 (plainElem Tryd.prog 3) (w.heap.size + 1) k D ∧ Cn D (hs (l.take k)) k ∧ Below w.heap.size w wr)
    (fun i _ => l.length - (intOf i).toNat)
  case atStart =>
    refine ⟨0, .map [], Nat.zero_le _, rfl, ?_, ?_, ?_⟩
    · have := World.ownsMap_made (w.alloc (.cells #[.int .i64 bits, .slice A l.length c] 25)) Tryd.prog 3 (plainElem (H := Unit) Tryd.prog 3)
      rwa [em] at this
    · rw [List.take_zero]
      exact cn_nil
    · exact ((Below.refl w.heap.size w).alloc (Nat.le_refl _) _).alloc (by simp) _
  case round =>
    obtain ⟨k, D, hk, rfl, hown, hcnt, hB⟩ := hrel
    have hbl := hown.lt
    by_cases hlt : k < l.length
    · have hd : decide ((k : Int) < (l.length : Int)) = true := decide_eq_true (by omega)
      obtain ⟨ad, rfl, q0, q1⟩ := at_T44 (Kd.C_below hC hB) (k : Int) (by omega) (by omega)
      rw [Int.toNat_natCast] at q0 q1
      have hw0 := hwf _ (rd44_mem hlt)
      have hnext := cn_next hr k hlt hcnt
      have hkm : k < maxLen := by
        have : (1000000 : Nat) < maxLen := by decide
        omega
      have HN := Aside0.mk hnext
      clear hnext hcnt
      generalize rd_T44 l (k : Int) = s at q0 q1 hw0 HN
      have hown' := hown.alloc (.cells #[.int .i64 s.f0, .int .i64 s.f1] 44)
      have hB' := hB.alloc hB.size (.cells #[.int .i64 s.f0, .int .i64 s.f1] 44)
      go_wp2_with (first
        | (at_mapUpdate; refine wpList_mapUpdate_own _ rfl _ _ _ 58 rfl 3 3 law3 Tryd.underlying58 _ (w.heap.size + 1) k _ rfl hown' hkm _ _ _ rfl rfl (keyOf_int_mk Tryd.underlying3 hw0.1) _ [] (plainElem_int Tryd.underlying3 hw0.2) ?_; intro w1 hown1 hgrow1)
        | go_in)
      have hgr : (wr.alloc (.cells #[.int .i64 s.f0, .int .i64 s.f1] 44)).grownBy w1 (some (w.heap.size + 1)) := ⟨hgrow1.os, hgrow1.tape, hgrow1.output, hgrow1.size, hgrow1.block⟩
      exact ⟨⟨k + 1, _, by omega, by simp, hown1, HN.out, hB'.grown hgr (by simp; omega) (fun j hj => by have := Option.some.inj hj; omega)⟩, by simp [intOf]; omega⟩
    · have hke : k = l.length := by omega
      subst hke
      rw [List.take_length] at hcnt
      go_wp2
      go_ret
      exact ⟨_, D, rfl, by omega, hown, hcnt, hB⟩
end Go.Proofs.YtlkameeaaplonaaDoor

/- More of a bucket, by the reference. Condition: the histogram is short, its counts are in 64 bits with what comes. -/
namespace Go.Proofs.YtlkameeaaplonaaDoor
open Go.RowKit Go.Proofs.YtlkameeaaplonaaDoor.QMeasureExpectedMatchesSpec Go.Proofs.YtlkameeaaplonaaDoorW.PrintWords Go.Proofs.YtlkameeaaplonaaDoorW.PrintLast Go.Proofs.YtlkameeaaplonaaDoorW.PrintMore
set_option linter.unusedVariables false
set_option linter.unusedSimpArgs false
/-- A histogram with n more of x, n above 0. -/
def moreL (x n : Int) : List S44 → List S44
  | [] => [⟨x, n⟩]
  | s :: r => if s.f0 ≥ x then (if s.f0 = x then ⟨s.f0, s.f1 + n⟩ :: r else ⟨x, n⟩ :: s :: r) else s :: moreL x n r
theorem hs_moreL (x n y : Int) : ∀ l : List S44, hs (moreL x n l) y = hs l y + if x = y then n else 0
  | [] => by simp [moreL, hs]
  | s :: r => by
    rw [moreL]
    split
    · split
      · rename_i h1 h2
        show (if s.f0 = y then s.f1 + n else 0) + hs r y = _
        rw [hs, h2]
        split <;> omega
      · show (if x = y then n else 0) + hs (s :: r) y = _
        omega
    · rw [hs, hs, hs_moreL x n y r]
      omega
theorem moreL_mem (x n : Int) (s : S44) : ∀ l : List S44, s ∈ moreL x n l → s.f0 = x ∨ ∃ t ∈ l, t.f0 = s.f0
  | [], h => by
    simp [moreL] at h
    exact .inl (by rw [h])
  | t :: r, h => by
    rw [moreL] at h
    split at h
    · split at h
      · rcases List.mem_cons.1 h with rfl | h
        · exact .inr ⟨t, by simp, rfl⟩
        · exact .inr ⟨s, by simp [h], rfl⟩
      · rcases List.mem_cons.1 h with rfl | h
        · exact .inl rfl
        · exact .inr ⟨s, h, rfl⟩
    · rcases List.mem_cons.1 h with rfl | h
      · exact .inr ⟨s, by simp, rfl⟩
      · rcases moreL_mem x n s r h with h | ⟨u, hu, e⟩
        · exact .inl h
        · exact .inr ⟨u, by simp [hu], e⟩
theorem moreL_rising (x n : Int) : ∀ l : List S44, (l.map (·.f0)).Pairwise (· < ·) → ((moreL x n l).map (·.f0)).Pairwise (· < ·)
  | [], _ => by simp [moreL]
  | s :: r, h => by
    have h' := h
    rw [List.map_cons, List.pairwise_cons] at h'
    rw [moreL]
    split
    · split
      · exact h
      · rename_i h1 h2
        rw [List.map_cons, List.pairwise_cons]
        refine ⟨fun y hy => ?_, h⟩
        rcases List.mem_cons.1 hy with rfl | hy
        · show x < s.f0
          omega
        · have := h'.1 y hy
          show x < y
          omega
    · rename_i h1
      rw [List.map_cons, List.pairwise_cons]
      refine ⟨fun y hy => ?_, moreL_rising x n r h'.2⟩
      obtain ⟨t, ht, rfl⟩ := List.mem_map.1 hy
      rcases moreL_mem x n t r ht with e | ⟨u, hu, e⟩
      · rw [e]
        omega
      · rw [← e]
        exact h'.1 _ (List.mem_map.2 ⟨u, hu, rfl⟩)
theorem moreL_pos (x n : Int) (hn : 0 < n) : ∀ l : List S44, (∀ s ∈ l, 0 < s.f1) → ∀ s ∈ moreL x n l, 0 < s.f1
  | [], _, s, h => by
    simp [moreL] at h
    rw [h]
    exact hn
  | t :: r, hp, s, h => by
    have ht := hp t (by simp)
    rw [moreL] at h
    split at h
    · split at h
      · rcases List.mem_cons.1 h with rfl | h
        · show 0 < t.f1 + n
          omega
        · exact hp s (by simp [h])
      · rcases List.mem_cons.1 h with rfl | h
        · exact hn
        · exact hp s h
    · rcases List.mem_cons.1 h with rfl | h
      · exact ht
      · exact moreL_pos x n hn r (fun u hu => hp u (by simp [hu])) s h
theorem moreL_len (x n : Int) : ∀ l : List S44, (moreL x n l).length ≤ l.length + 1
  | [] => by simp [moreL]
  | s :: r => by
    rw [moreL]
    have := moreL_len x n r
    split
    · split <;> simp
    · simp
      omega
/-- More of a bucket. -/
def moreF (x n : Int) (l : List S44) : List S44 := if n = 0 then l else moreL x n l
/-- A histogram with the counts F, short. -/
structure IsH (F : Int → Int) (m : Nat) (l : List S44) : Prop where
  hist : IsHist F l
  len : l.length ≤ m
theorem isH_nil (m : Nat) : IsH (fun _ => 0) m [] := ⟨⟨by simp, fun s => by simp; omega⟩, by simp⟩
theorem isH_more {F : Int → Int} {m : Nat} {l : List S44} (h : IsH F m l) (h0 : ∀ x, 0 ≤ F x) (x n : Int) (hn : 0 ≤ n) : IsH (fun y => F y + if x = y then n else 0) (m + 1) (moreF x n l) := by
  unfold moreF
  by_cases h1 : n = 0
  · rw [if_pos h1]
    exact ⟨h.hist.congr (fun y => by split <;> omega), by have := h.len; omega⟩
  · rw [if_neg h1]
    refine ⟨(isHist_hs (moreL_rising x n l h.hist.rising) (moreL_pos x n (by omega) l h.hist.pos)).congr fun y => ?_, by have := moreL_len x n l; have := h.len; omega⟩
    rw [hs_moreL, h.hist.eq h0]
theorem isH_bound' {F : Int → Int} {m : Nat} {l : List S44} (h : IsH F m l) {B : Int} (hB : ∀ y, F y ≤ B) : ∀ s ∈ l, 0 < s.f1 ∧ s.f1 ≤ B := fun s hs' => by
  obtain ⟨h1, h2⟩ := (h.hist.mem s).1 hs'
  have := hB s.f0
  omega
theorem more_done (x n bits : Int) (l : List S44) (hl : l.length ≤ 1000000) : ∀ (d i : Nat) (out : List S44), i + d = l.length → out.length ≤ i + 1 → Ev (fun k => dynamometerref9_more.l0 k x n true (i : Int) bits l bits out) (bits, out ++ l.drop i) := by
  intro d
  induction d with
  | zero =>
    intro i out hi ho
    refine Ev.step (f := fun _ => some (bits, out ++ l.drop i)) (fun k => ?_) (Ev.now _)
    rw [dynamometerref9_more.l0, if_neg (by omega), if_pos rfl, List.drop_of_length_le (by omega), List.append_nil]
  | succ d ih =>
    intro i out hi ho
    have hd : l.drop i = rd_T44 l (i : Int) :: l.drop (i + 1) := by rw [rd44 (by omega)]; exact List.drop_eq_getElem_cons (by omega)
    have h := ih (i + 1) (out ++ [rd_T44 l (i : Int)]) (by omega) (by rw [List.length_append]; simp; omega)
    rw [hd]
    rw [List.append_assoc, List.singleton_append] at h
    refine Ev.step (f := fun k => dynamometerref9_more.j1 k x n true (i : Int) false bits l bits out (rd_T44 l (i : Int)).f0 (rd_T44 l (i : Int)).f1) (fun k => ?_) (Ev.step (fun k => ?_) h)
    · rw [dynamometerref9_more.l0, if_pos (by omega), if_pos (by omega), if_pos rfl]
    · rw [dynamometerref9_more.j1, if_neg (by decide), if_pos (by omega), add1N i (by omega)]
theorem more_loop (x n bits : Int) (l : List S44) (hl : l.length ≤ 1000000) (hw : ∀ s ∈ l, -9223372036854775808 ≤ s.f1 + n ∧ s.f1 + n < 9223372036854775808) : ∀ (d i : Nat) (out : List S44), i + d = l.length → out.length ≤ i →
    Ev (fun k => dynamometerref9_more.l0 k x n false (i : Int) bits l bits out) (bits, out ++ moreL x n (l.drop i)) := by
  intro d
  induction d with
  | zero =>
    intro i out hi ho
    rw [List.drop_of_length_le (by omega), moreL]
    refine Ev.step (f := fun _ => some (bits, out ++ [(⟨x, n⟩ : S44)])) (fun k => ?_) (Ev.now _)
    rw [dynamometerref9_more.l0, if_neg (by omega), if_neg (by decide), if_pos (by omega)]
  | succ d ih =>
    intro i out hi ho
    have hil : i < l.length := by omega
    have hd : l.drop i = rd_T44 l (i : Int) :: l.drop (i + 1) := by rw [rd44 (by omega)]; exact List.drop_eq_getElem_cons (by omega)
    obtain ⟨w1, w2⟩ := hw _ (rd44_mem hil)
    have ew : wrap64 ((rd_T44 l (i : Int)).f1 + n) = (rd_T44 l (i : Int)).f1 + n := w64 w1 w2
    have es := add1N i (by omega)
    rw [hd, moreL]
    by_cases hx : (rd_T44 l (i : Int)).f0 ≥ x
    · rw [if_pos hx]
      by_cases he : (rd_T44 l (i : Int)).f0 = x
      · rw [if_pos he]
        have h := more_done x n bits l hl d (i + 1) (out ++ [(⟨(rd_T44 l (i : Int)).f0, (rd_T44 l (i : Int)).f1 + n⟩ : S44)]) (by omega) (by rw [List.length_append]; simp; omega)
        rw [List.append_assoc, List.singleton_append] at h
        refine Ev.step (f := fun k => dynamometerref9_more.j1 k x n false (i : Int) true bits l bits out (rd_T44 l (i : Int)).f0 (rd_T44 l (i : Int)).f1) (fun k => ?_) (Ev.step (fun k => ?_) h)
        · rw [dynamometerref9_more.l0, if_pos (by omega), if_pos (by omega), if_neg (by decide), decide_eq_true hx]
        · rw [dynamometerref9_more.j1, if_pos rfl, if_pos he, if_pos (by omega), es, ew]
      · rw [if_neg he]
        have h := more_done x n bits l hl d (i + 1) (out ++ [(⟨x, n⟩ : S44)] ++ [rd_T44 l (i : Int)]) (by omega) (by rw [List.length_append, List.length_append]; simp; omega)
        have e2 : out ++ [(⟨x, n⟩ : S44)] ++ [rd_T44 l (i : Int)] ++ l.drop (i + 1) = out ++ (⟨x, n⟩ : S44) :: rd_T44 l (i : Int) :: l.drop (i + 1) := by simp
        rw [e2] at h
        refine Ev.step (f := fun k => dynamometerref9_more.j1 k x n false (i : Int) true bits l bits out (rd_T44 l (i : Int)).f0 (rd_T44 l (i : Int)).f1) (fun k => ?_) (Ev.step (fun k => ?_) h)
        · rw [dynamometerref9_more.l0, if_pos (by omega), if_pos (by omega), if_neg (by decide), decide_eq_true hx]
        · rw [dynamometerref9_more.j1, if_pos rfl, if_neg he, if_pos (by omega), Option.bind_some, if_pos (by rw [List.length_append]; simp; omega), es]
    · rw [if_neg hx]
      have h := ih (i + 1) (out ++ [rd_T44 l (i : Int)]) (by omega) (by rw [List.length_append]; simp; omega)
      rw [List.append_assoc, List.singleton_append] at h
      refine Ev.step (f := fun k => dynamometerref9_more.j1 k x n false (i : Int) false bits l bits out (rd_T44 l (i : Int)).f0 (rd_T44 l (i : Int)).f1) (fun k => ?_) (Ev.step (fun k => ?_) h)
      · rw [dynamometerref9_more.l0, if_pos (by omega), if_pos (by omega), if_neg (by decide), decide_eq_false hx]
      · rw [dynamometerref9_more.j1, if_neg (by decide), if_pos (by omega), es]
/-- More of a bucket, by the reference. -/
theorem more_ev (x n bits : Int) (l : List S44) (hl : l.length ≤ 1000000) (hw : ∀ s ∈ l, -9223372036854775808 ≤ s.f1 + n ∧ s.f1 + n < 9223372036854775808) : Ev (fun k => dynamometerref9_more.f k bits l x n) (bits, moreF x n l) := by
  unfold moreF
  by_cases h0 : n = 0
  · have h := more_done x n bits l hl l.length 0 [] (by omega) (by simp)
    rw [if_pos h0]
    refine Ev.congr (fun k => ?_) h
    unfold dynamometerref9_more.f
    rw [h0]
    rfl
  · have h := more_loop x n bits l hl hw l.length 0 [] (by omega) (by simp)
    rw [if_neg h0]
    refine Ev.congr (fun k => ?_) h
    unfold dynamometerref9_more.f
    rw [beq_eq_false_iff_ne.2 h0]
    rfl
end Go.Proofs.YtlkameeaaplonaaDoor
