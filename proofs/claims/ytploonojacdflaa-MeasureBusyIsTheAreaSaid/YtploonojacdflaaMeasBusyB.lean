/- The plain law of Busy: the area under what it returns is the sum of the times taken; and when its check answers 0. -/
import Derived.Test.YtploonojacdflaaMeasBusyA
namespace Go.Proofs.Ytploonojacdflaa.Busy
open Go.Shelf Go.RowKit Go.Maps Go.Proofs.Ytploonojacdflaa Go.Proofs.Ytploonojacdflaa.QMeasureBusyIsTheArea
open Go.Proofs.YtploonojacdflaaW.PrintWords
/-- The area under a list of changes, up to the last one. -/
def area : List S42 → Int
  | [] => 0
  | [_] => 0
  | x :: y :: r => x.f1 * (y.f0 - x.f0) + area (y :: r)
def lastT : List S42 → Int
  | [] => 0
  | [x] => x.f0
  | _ :: y :: r => lastT (y :: r)
def lastU : List S42 → Int
  | [] => 0
  | [x] => x.f1
  | _ :: y :: r => lastU (y :: r)
/-- The sum over some times. -/
def sumF (g : Int → Int) : List Int → Int
  | [] => 0
  | t :: r => g t + sumF g r
theorem area_outs (f : Int → Int) : ∀ (C : List Int) (p n : Int), area (⟨p, n⟩ :: outs f C n) + n * p + sumF (fun t => f t * t) C = fin f C n * lastT (⟨p, n⟩ :: outs f C n)
  | [], p, n => by simp [outs, area, sumF, fin, lastT]
  | t :: r, p, n => by
    by_cases h : f t = 0
    · have ih := area_outs f r p n
      simp only [outs, sumF, fin, if_pos h]
      rw [h, Int.zero_mul, Int.zero_add, Int.add_zero]
      exact ih
    · have ih := area_outs f r t (n + f t)
      simp only [outs, sumF, fin, if_neg h, area, lastT]
      rw [← ih]
      grind
theorem last_outs (f : Int → Int) : ∀ (C : List Int) (p n : Int), lastU (⟨p, n⟩ :: outs f C n) = fin f C n
  | [], _, _ => rfl
  | t :: r, p, n => by
    by_cases h : f t = 0
    · simp only [outs, fin, if_pos h]
      rw [h, Int.add_zero]
      exact last_outs f r p n
    · simp only [outs, fin, if_neg h, lastU]
      exact last_outs f r t (n + f t)
theorem area_head (r : List S42) (p : Int) : area (⟨p, 0⟩ :: r) = area r := by
  cases r with
  | nil => rfl
  | cons y t => simp [area]
theorem lastU_head (r : List S42) (p : Int) (h : lastU (⟨p, 0⟩ :: r) = 0) : lastU r = 0 := by
  cases r with
  | nil => rfl
  | cons y t => simpa [lastU] using h
theorem sumF_add (g h : Int → Int) : ∀ C : List Int, sumF (fun t => g t + h t) C = sumF g C + sumF h C
  | [] => rfl
  | t :: r => by
    simp only [sumF, sumF_add g h r]
    omega
theorem sumF_zero : ∀ C : List Int, sumF (fun _ => 0) C = 0
  | [] => rfl
  | t :: r => by simp only [sumF, sumF_zero r]; rfl
theorem sumF_one (g : Int → Int) (x : Int) : ∀ C : List Int, C.Pairwise (· < ·) → sumF (fun t => if x = t then g t else 0) C = if x ∈ C then g x else 0
  | [], _ => rfl
  | t :: r, h => by
    rw [List.pairwise_cons] at h
    simp only [sumF, sumF_one g x r h.2]
    by_cases hx : x = t
    · subst hx
      have : x ∉ r := fun hm => by have := h.1 x hm; omega
      simp [this]
    · simp [hx]
theorem sumF_congr {g h : Int → Int} : ∀ {C : List Int}, (∀ t ∈ C, g t = h t) → sumF g C = sumF h C
  | [], _ => rfl
  | t :: r, e => by
    simp only [sumF]
    rw [e t (by simp), sumF_congr (C := r) (fun u hu => e u (by simp [hu]))]
/-- Counted by times, or one by one. -/
theorem sumF_count (g : Int → Int) (C : List Int) (hC : C.Pairwise (· < ·)) : ∀ xs : List Int, (∀ x ∈ xs, x ∈ C) → sumF (fun t => (xs.count t : Int) * g t) C = sumF g xs
  | [], _ => by
    simp only [List.count_nil]
    rw [sumF_congr (h := fun _ => 0) (fun t _ => by simp), sumF_zero]
    rfl
  | x :: r, h => by
    have ih := sumF_count g C hC r (fun y hy => h y (by simp [hy]))
    have e : sumF (fun t => ((x :: r).count t : Int) * g t) C = sumF (fun t => (r.count t : Int) * g t + (if x = t then g t else 0)) C := by
      apply sumF_congr
      intro t _
      rw [List.count_cons]
      by_cases hx : x = t
      · subst hx
        simp [Int.add_mul]
      · simp [hx]
    rw [e, sumF_add, ih, sumF_one g x C hC, if_pos (h x (by simp))]
    simp only [sumF]
    omega
theorem sumF_sub (g h : Int → Int) : ∀ C : List Int, sumF (fun t => g t - h t) C = sumF g C - sumF h C
  | [] => rfl
  | t :: r => by
    simp only [sumF, sumF_sub g h r]
    omega
/-- The times that were taken. -/
def took : List S45 → Int
  | [] => 0
  | s :: r => s.f1 + took r
theorem took_snoc (s : S45) : ∀ l : List S45, took (l ++ [s]) = took l + s.f1
  | [] => by simp [took]
  | x :: r => by
    simp only [List.cons_append, took, took_snoc s r]
    omega
theorem mem_times (l : List S45) : (∀ x ∈ l.map (·.f0), x ∈ times l) ∧ (∀ x ∈ l.map (fun s => s.f0 + s.f1), x ∈ times l) := by
  induction l with
  | nil => simp
  | cons s r ih =>
    simp only [List.map_cons, List.mem_cons, times]
    grind
theorem sum_net (g : Int → Int) (l : List S45) (C : List Int) (hC : C.Pairwise (· < ·)) (hm : ∀ x ∈ times l, x ∈ C) :
    sumF (fun t => net l t * g t) C = sumF g (l.map (·.f0)) - sumF g (l.map fun s => s.f0 + s.f1) := by
  have h1 := sumF_count g C hC (l.map (·.f0)) (fun x hx => hm x ((mem_times l).1 x hx))
  have h2 := sumF_count g C hC (l.map fun s => s.f0 + s.f1) (fun x hx => hm x ((mem_times l).2 x hx))
  rw [← h1, ← h2, ← sumF_sub]
  apply sumF_congr
  intro t _
  unfold net
  rw [Int.sub_mul]
theorem fin_sum (f : Int → Int) : ∀ (C : List Int) (n : Int), fin f C n = n + sumF f C
  | [], n => by simp [fin, sumF]
  | t :: r, n => by
    simp only [fin, sumF, fin_sum f r]
    omega
theorem sum_ones (xs : List Int) : sumF (fun _ => 1) xs = xs.length := by
  induction xs with
  | nil => rfl
  | cons x r ih =>
    simp only [sumF, ih, List.length_cons]
    push_cast
    omega
theorem sum_diff (l : List S45) : sumF (fun t => t) (l.map (·.f0)) - sumF (fun t => t) (l.map fun s => s.f0 + s.f1) = - took l := by
  induction l with
  | nil => rfl
  | cons s r ih =>
    simp only [List.map_cons, sumF, took]
    omega
/-- THE LAW. -/
theorem busy_law (l : List S45) : ∀ r, r = outs (net l) (Lib.compact ((times l).mergeSort fun x y => decide (x ≤ y))) 0 → area r = took l ∧ lastU r = 0 := by
  intro r hr
  have hs : ((times l).mergeSort fun x y => decide (x ≤ y)).Pairwise (· ≤ ·) := by
    have := List.pairwise_mergeSort (le := fun x y : Int => decide (x ≤ y)) (fun a b c h1 h2 => by simp only [decide_eq_true_eq] at h1 h2 ⊢; omega) (fun a b => by simp only [Bool.or_eq_true, decide_eq_true_eq]; omega) (times l)
    exact this.imp (fun h => by simpa using h)
  have hC := compact_rising _ hs
  have hm : ∀ x ∈ times l, x ∈ Lib.compact ((times l).mergeSort fun x y => decide (x ≤ y)) := fun x hx => (compact_mem _ x).2 (List.mem_mergeSort.2 hx)
  generalize Lib.compact ((times l).mergeSort fun x y => decide (x ≤ y)) = C at hC hm hr
  have h0 : fin (net l) C 0 = 0 := by
    have := sum_net (fun _ => 1) l C hC hm
    rw [sum_ones, sum_ones, List.length_map, List.length_map] at this
    rw [fin_sum, ← sumF_congr (g := fun t => net l t * 1) (fun t _ => by simp), this]
    omega
  have h1 := area_outs (net l) C 0 0
  have h2 := last_outs (net l) C 0 0
  rw [h0] at h1 h2
  rw [← hr] at h1 h2
  have h3 := sum_net (fun t => t) l C hC hm
  rw [sum_diff] at h3
  rw [area_head, h3] at h1
  refine ⟨by omega, lastU_head r 0 h2⟩
theorem area_snoc (x y : S42) : ∀ xs : List S42, area (xs ++ [x, y]) = area (xs ++ [x]) + x.f1 * (y.f0 - x.f0)
  | [] => by simp [area]
  | [a] => by simp [area]
  | a :: b :: r => by
    have ih := area_snoc x y (b :: r)
    simp only [List.cons_append, area] at ih ⊢
    omega
theorem lastU_snoc (x : S42) : ∀ xs : List S42, lastU (xs ++ [x]) = x.f1
  | [] => rfl
  | [a] => rfl
  | a :: b :: r => by
    have ih := lastU_snoc x (b :: r)
    simpa only [List.cons_append, lastU] using ih
end Go.Proofs.Ytploonojacdflaa.Busy
