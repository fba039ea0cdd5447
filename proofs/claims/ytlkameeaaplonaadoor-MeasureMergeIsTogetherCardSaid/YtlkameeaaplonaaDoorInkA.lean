/- The ink of the references: Int writes a number and a blank. Conditions: what is written is short; the table of powers of ten lies below. -/
import Derived.Test.YtlkameeaaplonaaDoorChecked
import Derived.Shelf.Strconv.AppendIntPublic10
import Derived.WalkKit
import Derived.Lib.ItoaLen
import Derived.Test.YtlkameeaaplonaaDoorWMore
namespace Go.Proofs.YtlkameeaaplonaaDoor
open Go.Shelf Go.RowKit Go.Proofs
open Go.Proofs.YtlkameeaaplonaaDoorW.PrintWords
def Tryd.lays176_ren : Go.Shelf.Ren := ⟨fun | 176 => 55 | 249 => 61 | 288 => 66 | 283 => 69 | 284 => 70 | 285 => 71 | 286 => 72 | 129 => 58 | 317 => 74 | 318 => 75 | 319 => 76 | 320 => 77 | 337 => 78 | 338 => 79 | n => n, fun | 37 => 48 | 2 => 2 | 3 => 3 | 53 => 78 | 4 => 4 | 9 => 9 | 171 => 87 | 0 => 0 | 173 => 89 | 212 => 94 | 51 => 76 | 5 => 5 | 20 => 20 | 213 => 95 | 46 => 69 | 232 => 96 | 233 => 97 | n => n, fun | 17 => 0 | 18 => 1 | 19 => 2 | n => n⟩
theorem Tryd.lays176 : LaysM.n176 Tryd.prog Tryd.lays176_ren := {
  mixed := by kernel_rfl
  f129 := Tryd.func58.trans (congrArg some (by kernel_rfl))
  f176 := Tryd.func55.trans (congrArg some (by kernel_rfl))
  f249 := Tryd.func61.trans (congrArg some (by kernel_rfl))
  f283 := Tryd.func69.trans (congrArg some (by kernel_rfl))
  f284 := Tryd.func70.trans (congrArg some (by kernel_rfl))
  f285 := Tryd.func71.trans (congrArg some (by kernel_rfl))
  f286 := Tryd.func72.trans (congrArg some (by kernel_rfl))
  f288 := Tryd.func66.trans (congrArg some (by kernel_rfl))
  f317 := Tryd.func74.trans (congrArg some (by kernel_rfl))
  f318 := Tryd.func75.trans (congrArg some (by kernel_rfl))
  f319 := Tryd.func76.trans (congrArg some (by kernel_rfl))
  f320 := Tryd.func77.trans (congrArg some (by kernel_rfl))
  f337 := Tryd.func78.trans (congrArg some (by kernel_rfl))
  f338 := Tryd.func79.trans (congrArg some (by kernel_rfl))
  t0 := Tryd.underlying0
  a0 := Tryd.isAgg0
  z0 := Tryd.sizeOf0
  v0 := Tryd.zeroValue0
  t2 := Tryd.underlying2
  a2 := Tryd.isAgg2
  z2 := Tryd.sizeOf2
  v2 := Tryd.zeroValue2
  t3 := Tryd.underlying3
  a3 := Tryd.isAgg3
  z3 := Tryd.sizeOf3
  v3 := Tryd.zeroValue3
  t4 := Tryd.underlying4
  a4 := Tryd.isAgg4
  z4 := Tryd.sizeOf4
  v4 := Tryd.zeroValue4
  t5 := Tryd.underlying5
  a5 := Tryd.isAgg5
  z5 := Tryd.sizeOf5
  v5 := Tryd.zeroValue5
  t9 := Tryd.underlying9
  a9 := Tryd.isAgg9
  z9 := Tryd.sizeOf9
  v9 := Tryd.zeroValue9
  t20 := Tryd.underlying20
  a20 := Tryd.isAgg20
  z20 := Tryd.sizeOf20
  v20 := Tryd.zeroValue20
  t37 := Tryd.underlying48
  a37 := Tryd.isAgg48
  z37 := Tryd.sizeOf48
  v37 := Tryd.zeroValue48
  t46 := Tryd.underlying69
  a46 := Tryd.isAgg69
  z46 := Tryd.sizeOf69
  v46 := Tryd.zeroValue69
  t51 := Tryd.underlying76
  a51 := Tryd.isAgg76
  z51 := Tryd.sizeOf76
  v51 := Tryd.zeroValue76
  t53 := Tryd.underlying78
  a53 := Tryd.isAgg78
  z53 := Tryd.sizeOf78
  v53 := Tryd.zeroValue78
  t171 := Tryd.underlying87
  a171 := Tryd.isAgg87
  z171 := Tryd.sizeOf87
  v171 := Tryd.zeroValue87
  t173 := Tryd.underlying89
  a173 := Tryd.isAgg89
  z173 := Tryd.sizeOf89
  v173 := Tryd.zeroValue89
  t212 := Tryd.underlying94
  a212 := Tryd.isAgg94
  z212 := Tryd.sizeOf94
  v212 := Tryd.zeroValue94
  t213 := Tryd.underlying95
  a213 := Tryd.isAgg95
  z213 := Tryd.sizeOf95
  t232 := Tryd.underlying96
  a232 := Tryd.isAgg96
  z232 := Tryd.sizeOf96
  v232 := Tryd.zeroValue96
  t233 := Tryd.underlying97
  a233 := Tryd.isAgg97
  z233 := Tryd.sizeOf97
  v233 := Tryd.zeroValue97
  g17 := by kernel_rfl
  g18 := by kernel_rfl
  g19 := by kernel_rfl
  i0 := by kernel_rfl
  i2 := by kernel_rfl
  i3 := by kernel_rfl
  i4 := by kernel_rfl
  i5 := by kernel_rfl
  i9 := by kernel_rfl
  i20 := by kernel_rfl
  i37 := by kernel_rfl
  i46 := by kernel_rfl
  i51 := by kernel_rfl
  i53 := by kernel_rfl
  i171 := by kernel_rfl
  i173 := by kernel_rfl
  i212 := by kernel_rfl
  i232 := by kernel_rfl
  i233 := by kernel_rfl
  m17 := by kernel_rfl
  m18 := by kernel_rfl
  m19 := by kernel_rfl }
theorem info5 : (Tryd.prog.info? 5).map (fun i => (i.zero, i.size, i.bytes)) = some (some (.int .u8 0), 1, 1) := by kernel_rfl
/-- The ink at g has written xs, into a row of its own from B on. -/
def Inked (B g : Nat) (xs : List Value) (w : World) : Prop := ∃ v, w.heap[g]? = some (.cells #[v] 50 (0, 0)) ∧ w.ownsRow B 5 1 v xs.length xs
/-- What Int writes. -/
def inkInt (i : Int) : List Value := Lib.byteCells (Lib.itoa i) ++ [.int .u8 32]
theorem row_slice {w : World} {B e z n : Nat} {v : Value} {xs : List Value} (h : w.ownsRow B e z v n xs) : ∃ A c, v = .slice A n c := by
  rcases h.2 with ⟨e, h0⟩ | ⟨gg, cap, cur, e, _⟩
  · subst h0
    exact ⟨_, _, e⟩
  · exact ⟨_, _, e⟩
theorem row_apart {w : World} {B e z n g t : Nat} {c : Array Value} {fr : Nat × Nat} {v : Value} {xs : List Value} (h : w.ownsRow B e z v n xs) (hg : w.heap[g]? = some (.cells c t fr)) (ht : t ≠ e) : v.ownBlock ≠ some g := by
  intro e'
  rcases h.2 with ⟨rfl, _⟩ | ⟨gg, cap, cur, rfl, _, h2, _⟩
  · simp [Value.ownBlock] at e'
  · simp [Value.ownBlock] at e'
    subst e'
    rw [hg] at h2
    injection h2 with h2
    injection h2 with _ h2
    exact ht h2
theorem row_other {w : World} {B e z n k : Nat} {o : Obj} {v : Value} {xs : List Value} (h : w.ownsRow B e z v n xs) (hk : w.heap[k]? = some o) (ho : ∀ c fz, o ≠ .cells c e fz) : v.ownBlock ≠ some k := by
  intro e'
  rcases h.2 with ⟨rfl, _⟩ | ⟨gg, cap, cur, rfl, _, h2, _⟩
  · simp [Value.ownBlock] at e'
  · simp [Value.ownBlock] at e'
    subst e'
    rw [hk] at h2
    injection h2 with h2
    exact ho _ _ h2
theorem store_ink {B g n : Nat} {w1 : World} {sv v1 : Value} {ys : List Value} (hb1 : w1.heap[g]? = some (.cells #[sv] 50 (0, 0))) (hown1 : w1.ownsRow B 5 1 v1 n ys) :
    (w1.setCell ⟨g, 0, none⟩ v1).ownsRow B 5 1 v1 n ys ∧ (w1.setCell ⟨g, 0, none⟩ v1).heap[g]? = some (.cells #[v1] 50 (0, 0)) :=
  ⟨World.ownsRow.kept (row := some g) hown1 ⟨rfl, rfl, rfl, by simp [World.setCell], fun k _ hne => heap_setCell_other w1 ⟨g, 0, none⟩ k _ (fun e => hne (by rw [e]))⟩ (.inr (row_apart hown1 hb1 (by decide))), one_setCell hb1⟩
set_option maxRecDepth 100000 in
set_option maxHeartbeats 4000000 in
theorem ink_int (B g : Nat) (xs : List Value) (i : Int) (w : World) (h0 : -9223372036854775808 ≤ i) (h1 : i ≤ 9223372036854775807) (hI : Inked B g xs w) (hBg : B ≤ g) (hlim : xs.length + 22 ≤ 140737488355328)
    (htab : Lib.TabBelow Tryd.prog B w "internal/strconv.uint64pow10" .u64 Lib.pow10Tab) :
    Calls Tryd.prog 49 #[.pointer (some ⟨g, 0, none⟩), .int .i64 i] w fun e w' => e = .returned (.tuple #[]) ∧ Inked B g (xs ++ inkInt i) w' ∧ Below B w w' ∧ Lib.OthersKept 5 (some g) w w' := by
  obtain ⟨sv, hb, hown⟩ := hI
  have hgl : g < w.heap.size := (Array.getElem?_eq_some_iff.1 hb).1
  have hc : w.cell? ⟨g, 0, none⟩ = some sv := by simp [World.cell?, hb]
  go_enter Tryd.func49, Tryd.ntmps49
  go_wp2_with (first
    | (go_at_call 55; refine (Any.strconv_AppendInt_10 Tryd.lays176 B xs.length i h0 h1 sv xs w hown (by omega) (by omega) htab).mono ?_; rintro e w1 ⟨v1, rfl, hown1, hnx1, hok1⟩; have hb1 := hok1 g _ hb (by simp) (by intro c fz hh; injection hh with _ hh2; exact absurd hh2 (by decide)); have hc1 : w1.cell? ⟨g, 0, none⟩ = some sv := (by simp [World.cell?, hb1]); have hf1 : w1.frozen? ⟨g, 0, none⟩ = false := (by simp [World.frozen?, hb1]); obtain ⟨hown2, hb2⟩ := store_ink hb1 (show w1.ownsRow B 5 1 v1 (xs.length + (Lib.itoa i).length) (xs ++ Lib.byteCells (Lib.itoa i)) from hown1); have hap1 := row_apart hown2 hb2 (by decide); obtain ⟨A1, c1, rfl⟩ := row_slice hown1; have hB2 : Below B w (w1.setCell ⟨g, 0, none⟩ (.slice A1 (xs.length + (Lib.itoa i).length) c1)) := hnx1.setCell (p := ⟨g, 0, none⟩) hBg _; have hs1 := hnx1.size; have hsz1 : (w1.setCell ⟨g, 0, none⟩ (.slice A1 (xs.length + (Lib.itoa i).length) c1)).heap.size = w1.heap.size := (by simp [World.setCell]))
    | ((with_reducible refine gate_builtin (b := .append) (xs := #[.tmp 17, .tmp 18]) rfl ?_); at_builtin; refine print_append_cells (w0 := w) B rfl (.tmp 17) (.tmp 18) 48 5 (.int .u8 0) 1 1 rfl Tryd.underlying48 info5 rfl (by decide) (by decide) (.slice A1 (xs.length + (Lib.itoa i).length) c1) (xs.length + (Lib.itoa i).length) (xs ++ Lib.byteCells (Lib.itoa i)) [.int .u8 32] rfl (by rw [hsz1]; rfl) rfl (by simp [Value.oneCell']) hown2 hB2 (by have := hB2.size; omega) (by have := Lib.itoa_length_le i h0 h1; omega) ?_; intro v3 w3 hown3 hB3 hg3 hat3; have hb3 := (hg3.block g (Array.getElem?_eq_some_iff.1 hb2).1 (fun e => hap1 e.symm)).trans hb2; have hc3 : w3.cell? ⟨g, 0, none⟩ = some (.slice A1 (xs.length + (Lib.itoa i).length) c1) := (by simp [World.cell?, hb3]); have hf3 : w3.frozen? ⟨g, 0, none⟩ = false := (by simp [World.frozen?, hb3]); have hap3 := row_apart hown3 hb3 (by decide); obtain ⟨A3, c3, rfl⟩ := row_slice hown3)
    | go_in)
  go_end0
  obtain ⟨hown4, hb4⟩ := store_ink hb3 hown3
  have e1 : xs ++ Lib.byteCells (Lib.itoa i) ++ [Value.int .u8 32] = xs ++ inkInt i := by rw [inkInt, List.append_assoc]
  have e2 : xs.length + (Lib.itoa i).length + 1 = (xs ++ inkInt i).length := by simp [inkInt, Lib.byteCells]; omega
  rw [e1, e2] at hown4
  refine ⟨rfl, ⟨_, hb4, ?_⟩, hB3.setCell (p := ⟨g, 0, none⟩) hBg _, fun k o hk hne ho => ?_⟩
  · rw [← e2]
    rw [← e2] at hown4
    exact hown4
  · have hkg : k ≠ g := fun e => hne (by rw [e])
    have h5 := hok1 k o hk (by simp) ho
    have h6 := (heap_setCell_other w1 ⟨g, 0, none⟩ k (.slice A1 (xs.length + (Lib.itoa i).length) c1) hkg).trans h5
    have h7 := (hg3.block k (Array.getElem?_eq_some_iff.1 h6).1 (fun e => row_other hown2 h6 ho e.symm)).trans h6
    exact (heap_setCell_other w3 ⟨g, 0, none⟩ k _ hkg).trans h7
end Go.Proofs.YtlkameeaaplonaaDoor
