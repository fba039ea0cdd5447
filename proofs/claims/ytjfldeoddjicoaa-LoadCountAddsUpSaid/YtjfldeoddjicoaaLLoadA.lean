/- The area under a line of stages in whole numbers: it never falls, and the time of an arrival is the least one with its area. -/
import Derived.Test.YtjfldeoddjicoaaLNa
namespace Go.Proofs.Ytjfldeoddjicoaa.QLoadCountAddsUp
set_option linter.unusedVariables false
set_option linter.unusedSimpArgs false
abbrev St := Nat × Nat × Nat
def okSt (s : St) : Prop := 1 ≤ s.1 ∧ s.1 ≤ 100000000000 ∧ s.2.1 ≤ 1000000000 ∧ s.2.2 ≤ 1000000000
def ah : List St → Nat → Nat
  | _, 0 => 0
  | [], _ + 1 => 0
  | s :: l, i + 1 => (s.2.1 + s.2.2) * s.1 + ah l i
def bg : List St → Nat → Nat
  | _, 0 => 0
  | [], _ + 1 => 0
  | s :: l, i + 1 => s.1 + bg l i
def gs (l : List St) (i : Nat) : St := l.getD i (0, 0, 0)
theorem ah_zero (l : List St) : ah l 0 = 0 := by cases l <;> rfl
theorem bg_zero (l : List St) : bg l 0 = 0 := by cases l <;> rfl
theorem ah_succ : ∀ (l : List St) (i : Nat), i < l.length → ah l (i + 1) = ah l i + ((gs l i).2.1 + (gs l i).2.2) * (gs l i).1
  | [], i, h => by simp at h
  | s :: l, 0, _ => by simp [ah, ah_zero, gs]
  | s :: l, i + 1, h => by
    have := ah_succ l i (by simpa using h)
    rw [ah, this, ah]
    simp only [gs, List.getD_cons_succ]
    omega
theorem bg_succ : ∀ (l : List St) (i : Nat), i < l.length → bg l (i + 1) = bg l i + (gs l i).1
  | [], i, h => by simp at h
  | s :: l, 0, _ => by simp [bg, bg_zero, gs]
  | s :: l, i + 1, h => by
    have := bg_succ l i (by simpa using h)
    rw [bg, this, bg]
    simp only [gs, List.getD_cons_succ]
    omega
theorem ah_mono (l : List St) {i j : Nat} (hij : i ≤ j) (hj : j ≤ l.length) : ah l i ≤ ah l j := by
  induction j with
  | zero => have : i = 0 := by omega
            rw [this]; exact Nat.le_refl _
  | succ j ih =>
    by_cases h : i = j + 1
    · rw [h]; exact Nat.le_refl _
    · have := ih (by omega) (by omega)
      rw [ah_succ l j (by omega)]
      exact Nat.le_trans this (Nat.le_add_right _ _)
theorem bg_mono (l : List St) {i j : Nat} (hij : i ≤ j) (hj : j ≤ l.length) : bg l i ≤ bg l j := by
  induction j with
  | zero => have : i = 0 := by omega
            rw [this]; exact Nat.le_refl _
  | succ j ih =>
    by_cases h : i = j + 1
    · rw [h]; exact Nat.le_refl _
    · have := ih (by omega) (by omega)
      rw [bg_succ l j (by omega)]
      exact Nat.le_trans this (Nat.le_add_right _ _)
def num (A F f t x : Nat) : Nat := if f ≤ t then A * F + 2 * F * f * x + (t - f) * x * x else A * F + 2 * F * f * x - (f - t) * x * x
theorem num_fits {A F f t x : Nat} (hx : x ≤ F) : (f - t) * x * x ≤ A * F + 2 * F * f * x := by
  have h1 : (f - t) * x * x ≤ f * F * x := Nat.mul_le_mul_right x (Nat.mul_le_mul (Nat.sub_le _ _) hx)
  have h2 : 2 * F * f * x = f * F * x + f * F * x := by grind
  omega
theorem num_int {A F f t x : Nat} (hx : x ≤ F) : (num A F f t x : Int) = A * F + 2 * F * f * x + ((t : Int) - f) * x * x := by
  unfold num
  by_cases h : f ≤ t
  · rw [if_pos h]
    have e : ((t - f : Nat) : Int) = (t : Int) - f := by omega
    push_cast [e]
    rfl
  · rw [if_neg h, Int.ofNat_sub (num_fits hx)]
    have e : ((f - t : Nat) : Int) = (f : Int) - t := by omega
    push_cast [e]
    grind
theorem num_mono {A F f t x y : Nat} (hxy : x ≤ y) (hy : y ≤ F) : num A F f t x ≤ num A F f t y := by
  have hx := num_int (A := A) (f := f) (t := t) (show x ≤ F by omega)
  have hy' := num_int (A := A) (f := f) (t := t) hy
  have e : (num A F f t y : Int) - num A F f t x = ((y : Int) - x) * ((f : Int) * (2 * F - (x + y)) + t * (x + y)) := by
    rw [hx, hy']; grind
  have h1 : 0 ≤ ((y : Int) - x) * ((f : Int) * (2 * F - (x + y)) + t * (x + y)) := by
    apply Int.mul_nonneg (by omega)
    apply Int.add_nonneg
    · exact Int.mul_nonneg (by omega) (by omega)
    · exact Int.mul_nonneg (by omega) (by omega)
  omega
theorem num_zero (A F f t : Nat) : num A F f t 0 = A * F := by unfold num; simp
theorem num_full (A F f t : Nat) : num A F f t F = F * (A + (f + t) * F) := by
  have h := num_int (A := A) (f := f) (t := t) (Nat.le_refl F)
  have : ((num A F f t F : Nat) : Int) = ((F * (A + (f + t) * F) : Nat) : Int) := by
    rw [h]; push_cast; grind
  exact Int.ofNat_inj.1 this
def nm (l : List St) (i x : Nat) : Nat := num (ah l i) (gs l i).1 (gs l i).2.1 (gs l i).2.2 x
def dn (l : List St) (i : Nat) : Nat := 2000000000 * (gs l i).1
theorem nm_zero (l : List St) (i : Nat) : nm l i 0 = ah l i * (gs l i).1 := num_zero _ _ _ _
theorem nm_full (l : List St) (i : Nat) (h : i < l.length) : nm l i (gs l i).1 = (gs l i).1 * ah l (i + 1) := by
  rw [ah_succ l i h]; exact num_full _ _ _ _
theorem nm_mono (l : List St) (i : Nat) {x y : Nat} (hxy : x ≤ y) (hy : y ≤ (gs l i).1) : nm l i x ≤ nm l i y := num_mono hxy hy
def rch (l : List St) (k i x : Nat) : Prop := (2 * k + 1) * dn l i ≤ 2 * nm l i x
def rca (l : List St) (k i : Nat) : Prop := (2 * k + 1) * 2000000000 ≤ 2 * ah l i
theorem rch_full {l : List St} {k i : Nat} (hi : i < l.length) (hF : 0 < (gs l i).1) : rch l k i (gs l i).1 ↔ rca l k (i + 1) := by
  unfold rch rca dn
  rw [nm_full l i hi]
  have e1 : (2 * k + 1) * (2000000000 * (gs l i).1) = (gs l i).1 * ((2 * k + 1) * 2000000000) := by grind
  have e2 : 2 * ((gs l i).1 * ah l (i + 1)) = (gs l i).1 * (2 * ah l (i + 1)) := by grind
  rw [e1, e2]
  exact Nat.mul_le_mul_left_iff hF
theorem rch_zero {l : List St} {k i : Nat} (hF : 0 < (gs l i).1) : rch l k i 0 ↔ rca l k i := by
  unfold rch rca dn
  rw [nm_zero l i]
  have e1 : (2 * k + 1) * (2000000000 * (gs l i).1) = (gs l i).1 * ((2 * k + 1) * 2000000000) := by grind
  have e2 : 2 * (ah l i * (gs l i).1) = (gs l i).1 * (2 * ah l i) := by grind
  rw [e1, e2]
  exact Nat.mul_le_mul_left_iff hF
theorem rch_mono {l : List St} {k i x y : Nat} (hxy : x ≤ y) (hy : y ≤ (gs l i).1) (h : rch l k i x) : rch l k i y := by
  unfold rch at *
  have := nm_mono l i hxy hy
  omega
theorem rca_mono {l : List St} {k i j : Nat} (hij : i ≤ j) (hj : j ≤ l.length) (h : rca l k i) : rca l k j := by
  unfold rca at *
  have := ah_mono l hij hj
  omega
structure IsArr (l : List St) (k i x : Nat) : Prop where
  lt : i < l.length
  le : x ≤ (gs l i).1
  no : ¬ rca l k i
  yes : rca l k (i + 1)
  least : ∀ y, y < x → ¬ rch l k i y
  reach : rch l k i x
structure IsPos (l : List St) (t i x : Nat) : Prop where
  lt : i < l.length
  eq : t = bg l i + x
  inn : i + 1 < l.length → x < (gs l i).1
theorem arr_iff {l : List St} (hok : ∀ i, i < l.length → 0 < (gs l i).1) {k i x t j y : Nat} (ha : IsArr l k i x) (hp : IsPos l t j y) :
    bg l i + x ≤ t ↔ rch l k j (min y (gs l j).1) := by
  have hF := hok j hp.lt
  rcases Nat.lt_trichotomy j i with h | h | h
  · have h1 := hp.inn (by have := ha.lt; omega)
    have h2 := bg_mono l (show j + 1 ≤ i by omega) (by have := ha.lt; omega)
    rw [bg_succ l j hp.lt] at h2
    have h3 := hp.eq
    constructor
    · intro h4; omega
    · intro h4
      have h5 := rch_mono (l := l) (k := k) (i := j) (Nat.min_le_right y _) (Nat.le_refl _) h4
      rw [rch_full hp.lt hF] at h5
      exact absurd (rca_mono (show j + 1 ≤ i by omega) (by have := ha.lt; omega) h5) ha.no
  · subst h
    have h3 := hp.eq
    have h4 := ha.le
    constructor
    · intro h5
      exact rch_mono (by omega) (Nat.min_le_right _ _) ha.reach
    · intro h5
      by_cases h6 : min y (gs l j).1 < x
      · exact absurd h5 (ha.least _ h6)
      · omega
  · have h2 := bg_mono l (show i + 1 ≤ j by omega) (by have := hp.lt; omega)
    rw [bg_succ l i ha.lt] at h2
    have h3 := hp.eq
    have h4 := ha.le
    constructor
    · intro _
      have h5 := rca_mono (show i + 1 ≤ j by omega) (by have := hp.lt; omega) ha.yes
      rw [← rch_zero hF] at h5
      exact rch_mono (by omega) (Nat.min_le_right _ _) h5
    · intro _; omega
def cnt (l : List St) (i x : Nat) : Nat := (2 * nm l i x + dn l i) / (2 * dn l i)
theorem cnt_iff {l : List St} {i x k : Nat} (hF : 0 < (gs l i).1) : k < cnt l i x ↔ rch l k i x := by
  unfold cnt rch
  have hD : 0 < 2 * dn l i := by unfold dn; omega
  rw [← Nat.succ_le_iff, Nat.le_div_iff_mul_le hD]
  have e : (k + 1) * (2 * dn l i) = (2 * k + 1) * dn l i + dn l i := by grind
  rw [Nat.succ_eq_add_one, e]
  omega
end Go.Proofs.Ytjfldeoddjicoaa.QLoadCountAddsUp
