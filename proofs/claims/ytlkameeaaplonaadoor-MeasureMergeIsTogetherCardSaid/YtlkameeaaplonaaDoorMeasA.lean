/- The search for a number's place in a list of rising numbers, and the list with the number put there. -/
import Derived.Test.YtlkameeaaplonaaDoorQMeasureMergeIsTogetherx2
import Derived.Test.YtlkameeaaplonaaDoorMeasIns
namespace Go.Proofs.YtlkameeaaplonaaDoor
open Go.RowKit Go.Proofs.YtlkameeaaplonaaDoor.QMeasureMergeIsTogether
open Go.Proofs.YtlkameeaaplonaaDoorW.PrintWords
theorem wr_small {z : Int} (h0 : -9223372036854775808 ≤ z) (h1 : z ≤ 9223372036854775807) : wrap64 z = z := by unfold wrap64; omega
theorem wr_unsigned {z : Int} (h0 : 0 ≤ z) (h1 : z ≤ 9223372036854775807) : IntKind.u64.wrap z = z := by rw [IntKind.wrap_u64]; omega
theorem mid (a c : Nat) (h : a + c ≤ 9223372036854775807) : wrap64 ((IntKind.u64.wrap (wrap64 ((a : Int) + (c : Int)))) / 2) = (((a + c) / 2 : Nat) : Int) := by
  rw [wr_small (z := (a : Int) + (c : Int)) (by omega) (by omega), wr_unsigned (z := (a : Int) + (c : Int)) (by omega) (by omega), wr_small (z := ((a : Int) + (c : Int)) / 2) (by omega) (by omega)]
  omega
theorem suc (a : Nat) (h : a + 1 ≤ 9223372036854775807) : wrap64 ((a : Int) + 1) = ((a + 1 : Nat) : Int) := by
  rw [wr_small (by omega) (by omega)]
  omega
theorem less_f (a b : Int) : cmp_Less_int.f a b = some (decide (a < b)) := by
  simp [cmp_Less_int.f, cmp_isNaN_int.f]
theorem nan_f (a : Int) : slices_isNaN_int.f a = some false := by simp [slices_isNaN_int.f]

def Rising (xs : List Int) : Prop := xs.Pairwise (· < ·)
theorem rising_lt {xs : List Int} (h : Rising xs) {i j : Nat} (hij : i < j) (hj : j < xs.length) : xs.getD i 0 < xs.getD j 0 := by
  have := List.pairwise_iff_getElem.1 h i j (by omega) hj hij
  simpa [List.getD, List.getElem?_eq_getElem (show i < xs.length by omega), List.getElem?_eq_getElem hj] using this
theorem rd_eq (xs : List Int) (i : Nat) : rd xs (i : Int) = xs.getD i 0 := by simp [rd]
/-- The search: behind the smaller ones, ahead of the greater ones. -/
theorem search (xs : List Int) (x : Int) (hs : Rising xs) (hn : xs.length ≤ 4611686018427387904) (hx : ∀ i, i < xs.length → xs.getD i 0 ≠ x) :
    ∀ (k a c : Nat), c - a < k → a ≤ c → c ≤ xs.length → (∀ j, j < a → xs.getD j 0 < x) → (∀ j, c ≤ j → j < xs.length → x < xs.getD j 0) →
      ∃ i : Nat, slices_BinarySearch_int_int.l0 k xs x (xs.length : Int) (a : Int) (c : Int) = some ((i : Int), false) ∧ i ≤ xs.length ∧ (∀ j, j < i → xs.getD j 0 < x) ∧ (∀ j, i ≤ j → j < xs.length → x < xs.getD j 0)
  | 0, a, c, h, _, _, _, _ => by omega
  | k + 1, a, c, h, hac, hc, hlo, hhi => by
    rw [slices_BinarySearch_int_int.l0]
    by_cases hlt : a < c
    · rw [if_pos (by omega), mid a c (by omega)]
      obtain ⟨m, hm⟩ : ∃ m, m = (a + c) / 2 := ⟨_, rfl⟩
      rw [← hm]
      have hma : a ≤ m := by omega
      have hmc : m < c := by omega
      clear hm
      rw [if_pos (by omega), if_pos (by omega), rd_eq, less_f, Option.bind_some, suc m (by omega)]
      by_cases hl : xs.getD m 0 < x
      · rw [if_pos (by simpa using hl)]
        exact search xs x hs hn hx k (m + 1) c (by omega) (by omega) hc (fun j hj => by
          by_cases hjm : j = m
          · subst hjm; exact hl
          · have := rising_lt hs (show j < m by omega) (by omega); omega) hhi
      · rw [if_neg (by simpa using hl)]
        have hne := hx m (by omega)
        exact search xs x hs hn hx k a m (by omega) (by omega) (by omega) hlo (fun j hj hjl => by
          by_cases hjm : j = m
          · subst hjm; omega
          · have := rising_lt hs (show m < j by omega) hjl; omega)
    · have hea : a = c := by omega
      subst hea
      rw [if_neg (by omega)]
      by_cases hal : a < xs.length
      · rw [if_pos (by omega), if_pos (by omega), if_pos (by omega), rd_eq, if_neg (hx a hal), nan_f, Option.bind_some, if_neg (by simp)]
        exact ⟨a, rfl, hc, hlo, hhi⟩
      · rw [if_neg (by omega)]
        exact ⟨a, rfl, hc, hlo, hhi⟩
theorem search_f (xs : List Int) (x : Int) (hs : Rising xs) (hn : xs.length ≤ 4611686018427387904) (hx : x ∉ xs) :
    ∃ i : Nat, slices_BinarySearch_int_int.f (xs.length + 1) xs x = some ((i : Int), false) ∧ i ≤ xs.length ∧ (∀ j, j < i → xs.getD j 0 < x) ∧ (∀ j, i ≤ j → j < xs.length → x < xs.getD j 0) := by
  obtain ⟨i, h1, h2⟩ := search xs x hs hn (fun i hi e => hx (by rw [← e]; simp [List.getD, List.getElem?_eq_getElem hi])) (xs.length + 1) 0 xs.length (by omega) (by omega) (Nat.le_refl _) (fun j hj => by omega) (fun j h1 h2 => by omega)
  exact ⟨i, h1, h2⟩
theorem put_rising {xs : List Int} {x : Int} {i : Nat} (hs : Rising xs) (hi : i ≤ xs.length) (hlo : ∀ j, j < i → xs.getD j 0 < x) (hhi : ∀ j, i ≤ j → j < xs.length → x < xs.getD j 0) : Rising (put xs i x) := by
  unfold Rising put
  have ht : ∀ y ∈ xs.take i, y < x := by
    intro y hy
    obtain ⟨j, hj, rfl⟩ := List.getElem_of_mem hy
    have hj' : j < i := by rw [List.length_take] at hj; omega
    have := hlo j hj'
    rw [List.getElem_take]
    simpa [List.getD, List.getElem?_eq_getElem (show j < xs.length by omega)] using this
  have hd : ∀ y ∈ xs.drop i, x < y := by
    intro y hy
    obtain ⟨j, hj, rfl⟩ := List.getElem_of_mem hy
    rw [List.length_drop] at hj
    have := hhi (i + j) (by omega) (by omega)
    rw [List.getElem_drop]
    simpa [List.getD, List.getElem?_eq_getElem (show i + j < xs.length by omega)] using this
  refine List.pairwise_append.2 ⟨List.Pairwise.sublist (List.take_sublist _ _) hs, List.pairwise_cons.2 ⟨hd, List.Pairwise.sublist (List.drop_sublist _ _) hs⟩, ?_⟩
  intro a ha b hb
  rcases List.mem_cons.1 hb with rfl | hb
  · exact ht a ha
  · have := ht a ha
    have := hd b hb
    omega
theorem put_mem {xs : List Int} {x : Int} {i : Nat} (y : Int) : y ∈ put xs i x ↔ y = x ∨ y ∈ xs := by
  unfold put
  have e : y ∈ xs ↔ y ∈ xs.take i ∨ y ∈ xs.drop i := by rw [← List.mem_append, List.take_append_drop]
  rw [e]
  simp only [List.mem_append, List.mem_cons]
  grind
end Go.Proofs.YtlkameeaaplonaaDoor
