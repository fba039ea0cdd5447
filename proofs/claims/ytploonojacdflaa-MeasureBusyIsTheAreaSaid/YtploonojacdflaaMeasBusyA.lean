/- Busy: the words of its walk: the steps, and what comes out of them. -/
import Derived.Test.YtploonojacdflaaMeasSort
import Derived.Test.YtploonojacdflaaMeasTally
import Derived.Test.YtploonojacdflaaQMeasureBusyIsTheAreax3
import Derived.Test.YtploonojacdflaaQMeasureBusyIsTheAreax9
import Derived.Maps.OwnOps
import Derived.Maps.OwnSet
namespace Go.Proofs.Ytploonojacdflaa.Busy
open Go.Shelf Go.RowKit Go.Maps Go.Proofs.Ytploonojacdflaa Go.Proofs.Ytploonojacdflaa.QMeasureBusyIsTheArea
open Go.Proofs.YtploonojacdflaaW.PrintWords
theorem key_int (x : Int) : WideAt.IsKeyLit (Lit.int .i64 x) := trivial
/-- The times of some samples. -/
def times : List S45 → List Int
  | [] => []
  | s :: r => s.f0 :: (s.f0 + s.f1) :: times r
theorem times_append : ∀ (a b : List S45), times (a ++ b) = times a ++ times b
  | [], _ => rfl
  | s :: r, b => by simp [times, times_append r b]
theorem times_length : ∀ l : List S45, (times l).length = 2 * l.length
  | [] => rfl
  | s :: r => by simp only [times, List.length_cons, times_length r]; omega
/-- How many begin at a time, less how many end. -/
def net (l : List S45) (x : Int) : Int := ((l.map (·.f0)).count x : Int) - ((l.map fun s => s.f0 + s.f1).count x : Int)
theorem net_snoc (l : List S45) (s : S45) (x : Int) : net (l ++ [s]) x = net l x + (if s.f0 = x then 1 else 0) - (if s.f0 + s.f1 = x then 1 else 0) := by
  unfold net
  simp only [List.map_append, List.count_append, List.map_cons, List.map_nil, List.count_singleton, beq_iff_eq]
  split <;> split <;> push_cast <;> omega
theorem val_put (D : DataW Unit) (hD : IsMap D) (x d y : Int) : val (D.put (.int .i64 x) (.lit (.int .i64 d))) y = if y = x then d else val D y := by
  by_cases h : y = x
  · subst h
    unfold val
    rw [atKey_put_same hD (key_int y), if_pos rfl]
  · unfold val
    rw [atKey_put_other (by simpa using h), if_neg h]
structure Stepped (D : DataW Unit) (l : List S45) : Prop where
  tidy : Tidy D
  size : Maps.size D ≤ 2 * l.length
  val : ∀ x, val D x = net l x
theorem stepped_nil : Stepped (.map []) [] := ⟨tidy_empty, Nat.le_refl _, fun _ => rfl⟩
theorem size_put_le (D : DataW Unit) (h : Tidy D) (k : Lit) (d : DataW Unit) : Maps.size (D.put k d) ≤ Maps.size D + 1 := by
  rw [size_put h]
  split <;> omega
theorem stepped_snoc {D : DataW Unit} {l : List S45} (h : Stepped D l) (s : S45) (d1 d2 : Int) (h1 : d1 = net l s.f0 + 1) (h2 : d2 = (if s.f0 + s.f1 = s.f0 then d1 else net l (s.f0 + s.f1)) - 1) :
    Stepped ((D.put (.int .i64 s.f0) (.lit (.int .i64 d1))).put (.int .i64 (s.f0 + s.f1)) (.lit (.int .i64 d2))) (l ++ [s]) := by
  have ht1 : Tidy (D.put (.int .i64 s.f0) (.lit (.int .i64 d1))) := h.tidy.put (key_int _) _
  refine ⟨ht1.put (key_int _) _, ?_, fun x => ?_⟩
  · have a := size_put_le D h.tidy (.int .i64 s.f0) (.lit (.int .i64 d1))
    have b := size_put_le _ ht1 (.int .i64 (s.f0 + s.f1)) (.lit (.int .i64 d2))
    have := h.size
    rw [List.length_append, List.length_singleton]
    omega
  · rw [val_put _ ht1.isMap, val_put _ h.tidy.isMap, net_snoc, h.val]
    grind
/-- The number behind some times. -/
def fin (f : Int → Int) : List Int → Int → Int
  | [], n => n
  | t :: r, n => fin f r (n + f t)
theorem fin_snoc (f : Int → Int) (t : Int) : ∀ (xs : List Int) (n : Int), fin f (xs ++ [t]) n = fin f xs n + f t
  | [], _ => rfl
  | _ :: r, _ => fin_snoc f t r _
theorem fin_bound (f : Int → Int) (hf : ∀ t, -20000 ≤ f t ∧ f t ≤ 20000) : ∀ (xs : List Int) (n : Int), n - 20000 * xs.length ≤ fin f xs n ∧ fin f xs n ≤ n + 20000 * xs.length
  | [], n => by simp [fin]
  | t :: r, n => by
    have := fin_bound f hf r (n + f t)
    have := hf t
    simp only [fin, List.length_cons]
    push_cast
    omega
/-- What comes out: the times at which the number changes, with the number. -/
def outs (f : Int → Int) : List Int → Int → List S42
  | [], _ => []
  | t :: r, n => if f t = 0 then outs f r n else ⟨t, n + f t⟩ :: outs f r (n + f t)
theorem outs_snoc (f : Int → Int) (t : Int) : ∀ (xs : List Int) (n : Int), outs f (xs ++ [t]) n = outs f xs n ++ (if f t = 0 then [] else [⟨t, fin f xs n + f t⟩])
  | [], n => by simp only [List.nil_append, outs, fin]
  | x :: r, n => by
    simp only [List.cons_append, outs, fin, outs_snoc f t r]
    split
    · rename_i h
      rw [h, Int.add_zero]
    · rfl
theorem outs_length (f : Int → Int) : ∀ (xs : List Int) (n : Int), (outs f xs n).length ≤ xs.length
  | [], _ => Nat.le_refl _
  | x :: r, n => by
    simp only [outs]
    have h1 := outs_length f r n
    have h2 := outs_length f r (n + f x)
    split <;> simp <;> omega
theorem net_bound (l : List S45) (hn : l.length ≤ 20000) (x : Int) : -20000 ≤ net l x ∧ net l x ≤ 20000 := by
  have h1 := List.count_le_length (a := x) (l := l.map (·.f0))
  have h2 := List.count_le_length (a := x) (l := l.map fun s => s.f0 + s.f1)
  rw [List.length_map] at h1 h2
  unfold net
  omega
end Go.Proofs.Ytploonojacdflaa.Busy
