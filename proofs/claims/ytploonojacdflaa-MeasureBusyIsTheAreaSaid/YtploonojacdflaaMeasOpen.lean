/- A list of samples in memory, from what is read of it. -/
import Derived.Test.YtploonojacdflaaQMeasureBusyIsTheAreax0
import Derived.Deep.Slices
import Derived.WalkKit
import Derived.OpenShut
import Derived.ProofKit
import Derived.ShutString
import Derived.ChangeOld
import Derived.Below
import Derived.SizedLaws
import Derived.ChangeSame
namespace Go.Proofs.Ytploonojacdflaa.Busy
open Go.ChangeShapes Go.WideShapes Go.ChangeAt Go.RowKit Go.Deep Go.Proofs.Ytploonojacdflaa.QMeasureBusyIsTheArea
open Go.Proofs.YtploonojacdflaaW.PrintWords
section
variable {H : Type} {enc : TypeId × Value → H} {w : World} {base : Nat} {spare : Nat → Bool} {held : Bool}
/-- A slice, from its cells; its elements by their own law. -/
theorem slice_open {α : Type} (d : Kd α) {t e : TypeId} (ht : Try.prog.underlying t = some (.slice e)) (hc : Try.prog.cellsOf e = d.sz)
    (elem : ∀ {fuel : Nat} {cs : List Value} {x : DataW H × List MemPlace}, DataW.trod enc Try.prog w base spare held fuel e cs = some x → ∃ s : α, d.K w s cs)
    {fuel : Nat} {cs : List Value} {x : DataW H × List MemPlace} (hf : DataW.trod enc Try.prog w base spare held fuel t cs = some x) :
    ∃ (a : Option Addr) (len cap : Nat) (l : List α), cs = [.slice a len cap] ∧ l.length = len ∧ len ≤ cap ∧ Kd.C d w a len l := by
  rcases open_slice ht hf with ⟨hcs, _⟩ | ⟨x, ln, c, m, n, D, Pl, hcs, _, hl, hm, hmm, _, hx⟩
  · exact ⟨none, 0, 0, [], hcs, rfl, Nat.le_refl _, rfl, by omega, fun h => absurd h (by omega)⟩
  · have hlm : ln ≤ m := by rw [hmm]; split <;> omega
    have each : ∀ i, i < ln → ∃ (s : α) (cs' : List Value), w.cells? base (x.add (i * d.sz)) d.sz = some cs' ∧ d.K w s cs' := by
      intro i hi
      obtain ⟨cs', h1, h2⟩ := hx i (by omega)
      obtain ⟨s, hs⟩ := elem h2
      rw [hc] at h1
      exact ⟨s, cs', h1, hs⟩
    have hsome : ∀ n : Nat, n ≤ ln → ∃ l : List α, l.length = n ∧ ∀ i s, l[i]? = some s → ∃ cs', w.cells? base (x.add (i * d.sz)) d.sz = some cs' ∧ d.K w s cs' := by
      intro n
      induction n with
      | zero => intro _; exact ⟨[], rfl, by simp⟩
      | succ n ih =>
        intro hn
        obtain ⟨l, h1, h2⟩ := ih (by omega)
        obtain ⟨s, cs', hs, hk⟩ := each n (by omega)
        refine ⟨l ++ [s], by simp [h1], fun i t ht => ?_⟩
        by_cases hi : i < l.length
        · rw [List.getElem?_append_left hi] at ht
          exact h2 i t ht
        · rw [List.getElem?_append_right (by omega)] at ht
          have hi' : i = n := by
            have := (List.getElem?_eq_some_iff.1 ht).1
            simp at this
            omega
          subst hi'
          rw [h1, Nat.sub_self] at ht
          simp at ht
          subst ht
          exact ⟨cs', hs, hk⟩
    obtain ⟨l, h1, h2⟩ := hsome ln (Nat.le_refl _)
    refine ⟨some x, ln, c, l, hcs, h1, hl, h1, by unfold maxLen at hm; omega, fun _ => ⟨x, rfl, fun j s hj => ?_⟩⟩
    obtain ⟨cs', h3, h4⟩ := h2 j s hj
    obtain ⟨_, hlen, hcell⟩ := World.cells?_some h3
    refine ⟨cs', d.K_len h4, h4, fun i u hu => ?_⟩
    have hi : i < d.sz := by have := (List.getElem?_eq_some_iff.1 hu).1; rw [d.K_len h4] at this; exact this
    have := hcell i hi
    rw [hu, Go.Deep.add_add] at this
    exact this
theorem pair_open {fuel : Nat} {cs : List Value} {x : DataW H × List MemPlace} (h : DataW.trod enc Try.prog w base spare held fuel 78 cs = some x) : ∃ s : S78, k78.K w s cs := by
  obtain ⟨xs, k, _, _, hlen, hxl, hf⟩ := DataW.trod_struct Try.underlying78 h
  have hc : Try.prog.cellsOf 78 = 2 := by kernel_rfl
  have hc9 : Try.prog.cellsOf 9 = 1 := by kernel_rfl
  rw [hc] at hlen
  have hxl' : xs.length = 2 := hxl
  clear hxl
  have e2 : ∀ {α : Type} (l : List α), l.length = 2 → ∃ a b, l = [a, b] := by
    intro α l hl
    rcases l with _ | ⟨a, _ | ⟨b, _ | ⟨c, l⟩⟩⟩ <;> simp at hl
    exact ⟨a, b, rfl⟩
  obtain ⟨v0, v1, rfl⟩ := e2 cs hlen
  obtain ⟨y0, y1, rfl⟩ := e2 xs hxl'
  have g0 := hf 0 _ rfl
  have g1 := hf 1 _ rfl
  simp [hc9] at g0 g1
  obtain ⟨s0, e0, _⟩ := DataW.trod_string Try.underlying9 g0
  obtain ⟨s1, e1, _⟩ := DataW.trod_string Try.underlying9 g1
  simp at e0 e1
  exact ⟨⟨s0, s1⟩, by rw [e0, e1]; exact k78_mk w ⟨s0, s1⟩⟩
theorem sample_open {fuel : Nat} {cs : List Value} {x : DataW H × List MemPlace} (h : DataW.trod enc Try.prog w base spare held fuel 45 cs = some x) : ∃ s : S45, k45.K w s cs := by
  obtain ⟨xs, k, _, _, hlen, hxl, hf⟩ := DataW.trod_struct Try.underlying45 h
  have hc : Try.prog.cellsOf 45 = 4 := by kernel_rfl
  have hc3 : Try.prog.cellsOf 3 = 1 := by kernel_rfl
  have hc4 : Try.prog.cellsOf 4 = 1 := by kernel_rfl
  have hc43 : Try.prog.cellsOf 43 = 1 := by kernel_rfl
  rw [hc] at hlen
  have hxl' : xs.length = 4 := hxl
  clear hxl
  have e4 : ∀ {α : Type} (l : List α), l.length = 4 → ∃ a b c d, l = [a, b, c, d] := by
    intro α l hl
    rcases l with _ | ⟨a, _ | ⟨b, _ | ⟨c, _ | ⟨d, _ | ⟨e, l⟩⟩⟩⟩⟩ <;> simp at hl
    exact ⟨a, b, c, d, rfl⟩
  obtain ⟨v0, v1, v2, v3, rfl⟩ := e4 cs hlen
  obtain ⟨y0, y1, y2, y3, rfl⟩ := e4 xs hxl'
  have g0 := hf 0 _ rfl
  have g1 := hf 1 _ rfl
  have g2 := hf 2 _ rfl
  have g3 := hf 3 _ rfl
  simp [hc3, hc4, hc43] at g0 g1 g2 g3
  obtain ⟨n0, e0, _⟩ := DataW.trod_int Try.underlying3 g0
  obtain ⟨n1, e1, _⟩ := DataW.trod_int Try.underlying3 g1
  obtain ⟨a, len, cap, l, e2, hl, hle, hC⟩ := slice_open k78 Try.underlying43 (by kernel_rfl) (fun h => pair_open h) g2
  obtain ⟨b, e3, _⟩ := DataW.trod_bool Try.underlying4 g3
  simp at e0 e1 e2 e3
  subst hl
  exact ⟨⟨n0, n1, l, b⟩, by rw [e0, e1, e2, e3]; exact k45_mk w ⟨n0, n1, l, b⟩ hle hC⟩
/-- A list of samples, from what is read. -/
theorem samples_open {a : Option Addr} {len cap : Nat} {d : DataW H} {ps : List MemPlace} (h : DataW.Trod enc Try.prog w base spare held 37 (.slice a len cap) d ps) :
    ∃ l : List S45, l.length = len ∧ len ≤ cap ∧ Kd.C k45 w a len l := by
  obtain ⟨fuel, hf⟩ := h
  obtain ⟨a', len', cap', l, e, h1, h2, h3⟩ := slice_open k45 Try.underlying37 (by kernel_rfl) (fun h => sample_open h) hf
  simp [Value.cells] at e
  obtain ⟨rfl, rfl, rfl⟩ := e
  exact ⟨l, h1, h2, h3⟩
end
/-- The labels of samples in memory are not too many. -/
theorem labels_short {w : World} {A : Option Addr} {n : Nat} {l : List S45} (h : Kd.C k45 w A n l) : ∀ s ∈ l, s.f2.length ≤ 9223372036854775807 := by
  intro s hs
  obtain ⟨j, hj, rfl⟩ := List.getElem_of_mem hs
  obtain ⟨h1, h2, h3⟩ := h
  obtain ⟨ad, _, hc⟩ := h3 (by omega)
  obtain ⟨c, _, hK, _⟩ := hc j _ (List.getElem?_eq_getElem hj)
  obtain ⟨A2, c2, _, _, hC⟩ := k45_open hK
  exact hC.2.1
end Go.Proofs.Ytploonojacdflaa.Busy
