/- What a row opens: ints, lists of ints, histograms; the table of powers of ten out of the row's list. Condition: none. -/
import Derived.Test.YtlkameeaaplonaaDoorQMeasureMergeIsTogetherx0
import Derived.Test.YtlkameeaaplonaaDoorTie
import Derived.Test.YtlkameeaaplonaaDoorCards
import Derived.Lib.LaidTab
import Derived.Lib.SmallJoins
import Derived.Lib.ItoaNum
import Derived.Lib.AppendIntMem
import Derived.Stop.LaidErr
import Derived.Deep.Slices
import Derived.WalkKit
import Derived.ProofKit
import Derived.OpenShut
import Derived.ShutString
import Derived.ChangeOld
import Derived.Below
import Derived.SizedLaws
import Derived.ChangeSame
namespace Go.Proofs.YtlkameeaaplonaaDoor.DRow
open Go.ChangeShapes Go.WideShapes Go.ChangeAt Go.RowKit Go.Deep Go.Proofs.YtlkameeaaplonaaDoor.QMeasureMergeIsTogether
open Go.Proofs.YtlkameeaaplonaaDoorW.PrintWords
set_option linter.unusedVariables false
section
variable {H : Type} {enc : TypeId × Value → H} {w : World} {base : Nat} {spare : Nat → Bool} {held : Bool}
/-- A slice, from its cells; its elements by their own law. -/
theorem slice_open {α : Type} (d : Kd α) (Q : α → Prop) {t e : TypeId} (ht : Tryd.prog.underlying t = some (.slice e)) (hc : Tryd.prog.cellsOf e = d.sz)
    (elem : ∀ {fuel : Nat} {cs : List Value} {x : DataW H × List MemPlace}, DataW.trod enc Tryd.prog w base spare held fuel e cs = some x → ∃ s : α, d.K w s cs ∧ Q s)
    {fuel : Nat} {cs : List Value} {x : DataW H × List MemPlace} (hf : DataW.trod enc Tryd.prog w base spare held fuel t cs = some x) :
    ∃ (a : Option Addr) (len cap : Nat) (l : List α), cs = [.slice a len cap] ∧ l.length = len ∧ len ≤ cap ∧ Kd.C d w a len l ∧ ∀ s ∈ l, Q s := by
  rcases open_slice ht hf with ⟨hcs, _⟩ | ⟨x, ln, c, m, n, D, Pl, hcs, _, hl, hm, hmm, _, hx⟩
  · exact ⟨none, 0, 0, [], hcs, rfl, Nat.le_refl _, ⟨rfl, by omega, fun h => absurd h (by omega)⟩, by simp⟩
  · have hlm : ln ≤ m := by rw [hmm]; split <;> omega
    have each : ∀ i, i < ln → ∃ (s : α) (cs' : List Value), w.cells? base (x.add (i * d.sz)) d.sz = some cs' ∧ d.K w s cs' ∧ Q s := by
      intro i hi
      obtain ⟨cs', h1, h2⟩ := hx i (by omega)
      obtain ⟨s, hs⟩ := elem h2
      rw [hc] at h1
      exact ⟨s, cs', h1, hs⟩
    have hsome : ∀ n : Nat, n ≤ ln → ∃ l : List α, l.length = n ∧ (∀ i s, l[i]? = some s → ∃ cs', w.cells? base (x.add (i * d.sz)) d.sz = some cs' ∧ d.K w s cs') ∧ ∀ s ∈ l, Q s := by
      intro n
      induction n with
      | zero => intro _; exact ⟨[], rfl, by simp, by simp⟩
      | succ n ih =>
        intro hn
        obtain ⟨l, h1, h2, h3⟩ := ih (by omega)
        obtain ⟨s, cs', hs, hk, hq⟩ := each n (by omega)
        refine ⟨l ++ [s], by simp [h1], fun i t ht => ?_, fun t ht => ?_⟩
        · by_cases hi : i < l.length
          · rw [List.getElem?_append_left hi] at ht
            exact h2 i t ht
          · rw [List.getElem?_append_right (by omega)] at ht
            have hi' : i = n := by
              have := (List.getElem?_eq_some_iff.1 ht).1
              simp at this
              omega
            subst hi'
            rw [h1, Nat.sub_self] at ht
            simp at ht
            subst ht
            exact ⟨cs', hs, hk⟩
        · rcases List.mem_append.1 ht with h | h
          · exact h3 t h
          · obtain rfl := List.mem_singleton.1 h
            exact hq
    obtain ⟨l, h1, h2, h3⟩ := hsome ln (Nat.le_refl _)
    refine ⟨some x, ln, c, l, hcs, h1, hl, ⟨h1, by unfold maxLen at hm; omega, fun _ => ⟨x, rfl, fun j s hj => ?_⟩⟩, h3⟩
    obtain ⟨cs', h3, h4⟩ := h2 j s hj
    obtain ⟨_, hlen, hcell⟩ := World.cells?_some h3
    refine ⟨cs', d.K_len h4, h4, fun i u hu => ?_⟩
    have hi : i < d.sz := by have := (List.getElem?_eq_some_iff.1 hu).1; rw [d.K_len h4] at this; exact this
    have := hcell i hi
    rw [hu, Go.Deep.add_add] at this
    exact this
abbrev wf64 (s : Int) : Prop := (Lit.int .i64 s).wf = true
theorem int_open {fuel : Nat} {cs : List Value} {x : DataW H × List MemPlace} (h : DataW.trod enc Tryd.prog w base spare held fuel 3 cs = some x) : ∃ s : Int, (Kd.int .i64).K w s cs ∧ wf64 s := by
  obtain ⟨n0, e0, _, hw⟩ := DataW.trod_int Tryd.underlying3 h
  exact ⟨n0, e0, hw⟩
/-- A list of ints, from what is read. -/
theorem ints_open {a : Option Addr} {len cap : Nat} {d : DataW H} {ps : List MemPlace} (h : DataW.Trod enc Tryd.prog w base spare held 22 (.slice a len cap) d ps) :
    ∃ l : List Int, l.length = len ∧ len ≤ cap ∧ Kd.C (Kd.int .i64) w a len l ∧ ∀ s ∈ l, wf64 s := by
  obtain ⟨fuel, hf⟩ := h
  obtain ⟨a', len', cap', l, e, h1, h2, h3, h4⟩ := slice_open (Kd.int .i64) wf64 Tryd.underlying22 (by kernel_rfl) (fun h => int_open h) hf
  simp [Value.cells] at e
  obtain ⟨rfl, rfl, rfl⟩ := e
  exact ⟨l, h1, h2, h3, h4⟩
theorem count_open {fuel : Nat} {cs : List Value} {x : DataW H × List MemPlace} (h : DataW.trod enc Tryd.prog w base spare held fuel 44 cs = some x) : ∃ s : S44, k44.K w s cs ∧ (wf64 s.f0 ∧ wf64 s.f1) := by
  obtain ⟨xs, k, _, _, hlen, hxl, hf⟩ := DataW.trod_struct Tryd.underlying44 h
  have hc : Tryd.prog.cellsOf 44 = 2 := by kernel_rfl
  have hc3 : Tryd.prog.cellsOf 3 = 1 := by kernel_rfl
  rw [hc] at hlen
  have hxl' : xs.length = 2 := hxl
  clear hxl
  have e2 : ∀ {α : Type} (l : List α), l.length = 2 → ∃ a b, l = [a, b] := by
    intro α l hl
    rcases l with _ | ⟨a, _ | ⟨b, _ | ⟨c, l⟩⟩⟩ <;> simp at hl
    exact ⟨a, b, rfl⟩
  obtain ⟨v0, v1, rfl⟩ := e2 cs hlen
  obtain ⟨y0, y1, rfl⟩ := e2 xs hxl'
  have g0 := hf 0 _ rfl
  have g1 := hf 1 _ rfl
  simp [hc3] at g0 g1
  obtain ⟨s0, e0, _, q0⟩ := DataW.trod_int Tryd.underlying3 g0
  obtain ⟨s1, e1, _, q1⟩ := DataW.trod_int Tryd.underlying3 g1
  simp at e0 e1
  exact ⟨⟨s0, s1⟩, by rw [e0, e1]; exact k44_mk w ⟨s0, s1⟩, q0, q1⟩
/-- A histogram, from what is read. -/
theorem hist_open {r : Reach} {b0 : Nat} {v : Value} {d : DataW H} {p : List MemPlace} (hv : Value.okWide Tryd.prog w r b0 25 v) (h : DataW.Trod enc Tryd.prog w base spare held 25 v d p) :
    ∃ (bits : Int) (a : Option Addr) (l : List S44) (cap : Nat), v = .agg #[.int .i64 bits, .slice a l.length cap] ∧ l.length ≤ cap ∧ wf64 bits ∧ Kd.C k44 w a l.length l ∧ ∀ s ∈ l, wf64 s.f0 ∧ wf64 s.f1 := by
  obtain ⟨v0, v1, y0, y1, n, rfl, _, _, h0, h1⟩ := Joins.open_agg2 Tryd.underlying25 (by kernel_rfl) (by kernel_rfl) hv h
  obtain ⟨bits, e0, _, hw⟩ := DataW.trod_int Tryd.underlying3 h0
  obtain ⟨a, len, cap, l, e1, rfl, h2, h3, h4⟩ := slice_open k44 (fun s => wf64 s.f0 ∧ wf64 s.f1) Tryd.underlying23 (by kernel_rfl) (fun h => count_open h) h1
  simp at e0 e1
  subst e0 e1
  exact ⟨bits, a, l, cap, rfl, h2, hw, h3, h4⟩
end
theorem own : ownKnob Tryd.prog.godebug = none := by kernel_rfl
theorem laidOut : laidOutB Tryd.prog = true := by kernel_rfl
/-- The list of each row of this seat. -/
def laid : List (String × DataW Unit) := [("math/bits.deBruijn32tab", Rows.laid_math_bits_deBruijn32tab), ("math/bits.deBruijn64tab", Rows.laid_math_bits_deBruijn64tab), ("internal/strconv.uint64pow10", Rows.laid_internal_strconv_uint64pow10)]
theorem pow10_eq : (Rows.laid_internal_strconv_uint64pow10 : DataW Unit) = Lib.tabData .u64 Lib.pow10Tab := by kernel_rfl
theorem table {W : World} (h : laidMetH Tryd.prog laid W) : Lib.TabBelow Tryd.prog W.heap.size W "internal/strconv.uint64pow10" .u64 Lib.pow10Tab := by
  rw [MakeChecks.laidMetH_plain _ _ _ (by kernel_rfl)] at h
  have h3 := h.tail.tail
  rw [pow10_eq] at h3
  exact Lib.tabBelow_of_tabIs (Lib.tabIs_of_head (rest := []) (g := 0) (t := 94) (e := 78) (n := 20) (by kernel_rfl) (by kernel_rfl) Tryd.underlying94 Tryd.underlying78 (by kernel_rfl) (by kernel_rfl) h3)
end Go.Proofs.YtlkameeaaplonaaDoor.DRow
