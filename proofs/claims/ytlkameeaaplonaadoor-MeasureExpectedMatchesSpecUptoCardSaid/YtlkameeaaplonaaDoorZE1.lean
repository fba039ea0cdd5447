/- The texts of the claim, part 1: each says in its own first line what is proved and its conditions. -/
import Derived.Test.YtlkameeaaplonaaDoorChecked
import Derived.Shelf.Strconv.AppendIntPublic10
import Derived.WalkKit
import Derived.Lib.ItoaLen
import Derived.Test.YtlkameeaaplonaaDoorWMore
import Derived.Test.YtlkameeaaplonaaDoorQMeasureExpectedMatchesSpecx0
import Derived.Test.YtlkameeaaplonaaDoorQMeasureExpectedMatchesSpecx1
import Derived.Test.YtlkameeaaplonaaDoorQMeasureExpectedMatchesSpecx2
import Derived.Test.YtlkameeaaplonaaDoorQMeasureExpectedMatchesSpecx3
import Derived.Test.YtlkameeaaplonaaDoorQMeasureExpectedMatchesSpecx4
import Derived.Test.YtlkameeaaplonaaDoorQMeasureExpectedMatchesSpecx5
import Derived.Laws.IdiomStrings
import Derived.Shelf.Spec.SlicesInsertGrow
import Derived.Maps.OwnRows
import Derived.Laws.Rows
/- The ink of the references: Int writes a number and a blank. Conditions: what is written is short; the table of powers of ten lies below. -/
namespace Go.Proofs.YtlkameeaaplonaaDoor
open Go.Shelf Go.RowKit Go.Proofs
open Go.Proofs.YtlkameeaaplonaaDoorW.PrintWords
def Tryd.lays176_ren : Go.Shelf.Ren := ⟨fun | 176 => 55 | 249 => 61 | 288 => 66 | 283 => 69 | 284 => 70 | 285 => 71 | 286 => 72 | 129 => 58 | 317 => 74 | 318 => 75 | 319 => 76 | 320 => 77 | 337 => 78 | 338 => 79 | n => n, fun | 37 => 48 | 2 => 2 | 3 => 3 | 53 => 78 | 4 => 4 | 9 => 9 | 171 => 87 | 0 => 0 | 173 => 89 | 212 => 94 | 51 => 76 | 5 => 5 | 20 => 20 | 213 => 95 | 46 => 69 | 232 => 96 | 233 => 97 | n => n, fun | 17 => 0 | 18 => 1 | 19 => 2 | n => n⟩
theorem Tryd.lays176 : LaysM.n176 Tryd.prog Tryd.lays176_ren := {
  mixed := by kernel_rfl
  f129 := Tryd.func58.trans (congrArg some (by kernel_rfl))
  f176 := Tryd.func55.trans (congrArg some (by kernel_rfl))
  f249 := Tryd.func61.trans (congrArg some (by kernel_rfl))
  f283 := Tryd.func69.trans (congrArg some (by kernel_rfl))
  f284 := Tryd.func70.trans (congrArg some (by kernel_rfl))
  f285 := Tryd.func71.trans (congrArg some (by kernel_rfl))
  f286 := Tryd.func72.trans (congrArg some (by kernel_rfl))
  f288 := Tryd.func66.trans (congrArg some (by kernel_rfl))
  f317 := Tryd.func74.trans (congrArg some (by kernel_rfl))
  f318 := Tryd.func75.trans (congrArg some (by kernel_rfl))
  f319 := Tryd.func76.trans (congrArg some (by kernel_rfl))
  f320 := Tryd.func77.trans (congrArg some (by kernel_rfl))
  f337 := Tryd.func78.trans (congrArg some (by kernel_rfl))
  f338 := Tryd.func79.trans (congrArg some (by kernel_rfl))
  t0 := Tryd.underlying0
  a0 := Tryd.isAgg0
  z0 := Tryd.sizeOf0
  v0 := Tryd.zeroValue0
  t2 := Tryd.underlying2
  a2 := Tryd.isAgg2
  z2 := Tryd.sizeOf2
  v2 := Tryd.zeroValue2
  t3 := Tryd.underlying3
  a3 := Tryd.isAgg3
  z3 := Tryd.sizeOf3
  v3 := Tryd.zeroValue3
  t4 := Tryd.underlying4
  a4 := Tryd.isAgg4
  z4 := Tryd.sizeOf4
  v4 := Tryd.zeroValue4
  t5 := Tryd.underlying5
  a5 := Tryd.isAgg5
  z5 := Tryd.sizeOf5
  v5 := Tryd.zeroValue5
  t9 := Tryd.underlying9
  a9 := Tryd.isAgg9
  z9 := Tryd.sizeOf9
  v9 := Tryd.zeroValue9
  t20 := Tryd.underlying20
  a20 := Tryd.isAgg20
  z20 := Tryd.sizeOf20
  v20 := Tryd.zeroValue20
  t37 := Tryd.underlying48
  a37 := Tryd.isAgg48
  z37 := Tryd.sizeOf48
  v37 := Tryd.zeroValue48
  t46 := Tryd.underlying69
  a46 := Tryd.isAgg69
  z46 := Tryd.sizeOf69
  v46 := Tryd.zeroValue69
  t51 := Tryd.underlying76
  a51 := Tryd.isAgg76
  z51 := Tryd.sizeOf76
  v51 := Tryd.zeroValue76
  t53 := Tryd.underlying78
  a53 := Tryd.isAgg78
  z53 := Tryd.sizeOf78
  v53 := Tryd.zeroValue78
  t171 := Tryd.underlying87
  a171 := Tryd.isAgg87
  z171 := Tryd.sizeOf87
  v171 := Tryd.zeroValue87
  t173 := Tryd.underlying89
  a173 := Tryd.isAgg89
  z173 := Tryd.sizeOf89
  v173 := Tryd.zeroValue89
  t212 := Tryd.underlying94
  a212 := Tryd.isAgg94
  z212 := Tryd.sizeOf94
  v212 := Tryd.zeroValue94
  t213 := Tryd.underlying95
  a213 := Tryd.isAgg95
  z213 := Tryd.sizeOf95
  t232 := Tryd.underlying96
  a232 := Tryd.isAgg96
  z232 := Tryd.sizeOf96
  v232 := Tryd.zeroValue96
  t233 := Tryd.underlying97
  a233 := Tryd.isAgg97
  z233 := Tryd.sizeOf97
  v233 := Tryd.zeroValue97
  g17 := by kernel_rfl
  g18 := by kernel_rfl
  g19 := by kernel_rfl
  i0 := by kernel_rfl
  i2 := by kernel_rfl
  i3 := by kernel_rfl
  i4 := by kernel_rfl
  i5 := by kernel_rfl
  i9 := by kernel_rfl
  i20 := by kernel_rfl
  i37 := by kernel_rfl
  i46 := by kernel_rfl
  i51 := by kernel_rfl
  i53 := by kernel_rfl
  i171 := by kernel_rfl
  i173 := by kernel_rfl
  i212 := by kernel_rfl
  i232 := by kernel_rfl
  i233 := by kernel_rfl
  m17 := by kernel_rfl
  m18 := by kernel_rfl
  m19 := by kernel_rfl }
theorem info5 : (Tryd.prog.info? 5).map (fun i => (i.zero, i.size, i.bytes)) = some (some (.int .u8 0), 1, 1) := by kernel_rfl
/-- The ink at g has written xs, into a row of its own from B on. -/
def Inked (B g : Nat) (xs : List Value) (w : World) : Prop := ∃ v, w.heap[g]? = some (.cells #[v] 50 (0, 0)) ∧ w.ownsRow B 5 1 v xs.length xs
/-- What Int writes. -/
def inkInt (i : Int) : List Value := Lib.byteCells (Lib.itoa i) ++ [.int .u8 32]
theorem row_slice {w : World} {B e z n : Nat} {v : Value} {xs : List Value} (h : w.ownsRow B e z v n xs) : ∃ A c, v = .slice A n c := by
  rcases h.2 with ⟨e, h0⟩ | ⟨gg, cap, cur, e, _⟩
  · subst h0
    exact ⟨_, _, e⟩
  · exact ⟨_, _, e⟩
theorem row_apart {w : World} {B e z n g t : Nat} {c : Array Value} {fr : Nat × Nat} {v : Value} {xs : List Value} (h : w.ownsRow B e z v n xs) (hg : w.heap[g]? = some (.cells c t fr)) (ht : t ≠ e) : v.ownBlock ≠ some g := by
  intro e'
  rcases h.2 with ⟨rfl, _⟩ | ⟨gg, cap, cur, rfl, _, h2, _⟩
  · simp [Value.ownBlock] at e'
  · simp [Value.ownBlock] at e'
    subst e'
    rw [hg] at h2
    injection h2 with h2
    injection h2 with _ h2
    exact ht h2
theorem row_other {w : World} {B e z n k : Nat} {o : Obj} {v : Value} {xs : List Value} (h : w.ownsRow B e z v n xs) (hk : w.heap[k]? = some o) (ho : ∀ c fz, o ≠ .cells c e fz) : v.ownBlock ≠ some k := by
  intro e'
  rcases h.2 with ⟨rfl, _⟩ | ⟨gg, cap, cur, rfl, _, h2, _⟩
  · simp [Value.ownBlock] at e'
  · simp [Value.ownBlock] at e'
    subst e'
    rw [hk] at h2
    injection h2 with h2
    exact ho _ _ h2
theorem store_ink {B g n : Nat} {w1 : World} {sv v1 : Value} {ys : List Value} (hb1 : w1.heap[g]? = some (.cells #[sv] 50 (0, 0))) (hown1 : w1.ownsRow B 5 1 v1 n ys) :
    (w1.setCell ⟨g, 0, none⟩ v1).ownsRow B 5 1 v1 n ys ∧ (w1.setCell ⟨g, 0, none⟩ v1).heap[g]? = some (.cells #[v1] 50 (0, 0)) :=
  ⟨World.ownsRow.kept (row := some g) hown1 ⟨rfl, rfl, rfl, by simp [World.setCell], fun k _ hne => heap_setCell_other w1 ⟨g, 0, none⟩ k _ (fun e => hne (by rw [e]))⟩ (.inr (row_apart hown1 hb1 (by decide))), one_setCell hb1⟩
set_option maxRecDepth 100000 in
set_option maxHeartbeats 4000000 in
theorem ink_int (B g : Nat) (xs : List Value) (i : Int) (w : World) (h0 : -9223372036854775808 ≤ i) (h1 : i ≤ 9223372036854775807) (hI : Inked B g xs w) (hBg : B ≤ g) (hlim : xs.length + 22 ≤ 140737488355328)
    (htab : Lib.TabBelow Tryd.prog B w "internal/strconv.uint64pow10" .u64 Lib.pow10Tab) :
    Calls Tryd.prog 49 #[.pointer (some ⟨g, 0, none⟩), .int .i64 i] w fun e w' => e = .returned (.tuple #[]) ∧ Inked B g (xs ++ inkInt i) w' ∧ Below B w w' ∧ Lib.OthersKept 5 (some g) w w' := by
  obtain ⟨sv, hb, hown⟩ := hI
  have hgl : g < w.heap.size := (Array.getElem?_eq_some_iff.1 hb).1
  have hc : w.cell? ⟨g, 0, none⟩ = some sv := by simp [World.cell?, hb]
  go_enter Tryd.func49, Tryd.ntmps49
  go_wp2_with (first
    | (go_at_call 55; refine (Any.strconv_AppendInt_10 Tryd.lays176 B xs.length i h0 h1 sv xs w hown (by omega) (by omega) htab).mono ?_; rintro e w1 ⟨v1, rfl, hown1, hnx1, hok1⟩; have hb1 := hok1 g _ hb (by simp) (by intro c fz hh; injection hh with _ hh2; exact absurd hh2 (by decide)); have hc1 : w1.cell? ⟨g, 0, none⟩ = some sv := (by simp [World.cell?, hb1]); have hf1 : w1.frozen? ⟨g, 0, none⟩ = false := (by simp [World.frozen?, hb1]); obtain ⟨hown2, hb2⟩ := store_ink hb1 (show w1.ownsRow B 5 1 v1 (xs.length + (Lib.itoa i).length) (xs ++ Lib.byteCells (Lib.itoa i)) from hown1); have hap1 := row_apart hown2 hb2 (by decide); obtain ⟨A1, c1, rfl⟩ := row_slice hown1; have hB2 : Below B w (w1.setCell ⟨g, 0, none⟩ (.slice A1 (xs.length + (Lib.itoa i).length) c1)) := hnx1.setCell (p := ⟨g, 0, none⟩) hBg _; have hs1 := hnx1.size; have hsz1 : (w1.setCell ⟨g, 0, none⟩ (.slice A1 (xs.length + (Lib.itoa i).length) c1)).heap.size = w1.heap.size := (by simp [World.setCell]))
    | ((with_reducible refine gate_builtin (b := .append) (xs := #[.tmp 17, .tmp 18]) rfl ?_); at_builtin; refine print_append_cells (w0 := w) B rfl (.tmp 17) (.tmp 18) 48 5 (.int .u8 0) 1 1 rfl Tryd.underlying48 info5 rfl (by decide) (by decide) (.slice A1 (xs.length + (Lib.itoa i).length) c1) (xs.length + (Lib.itoa i).length) (xs ++ Lib.byteCells (Lib.itoa i)) [.int .u8 32] rfl (by rw [hsz1]; rfl) rfl (by simp [Value.oneCell']) hown2 hB2 (by have := hB2.size; omega) (by have := Lib.itoa_length_le i h0 h1; omega) ?_; intro v3 w3 hown3 hB3 hg3 hat3; have hb3 := (hg3.block g (Array.getElem?_eq_some_iff.1 hb2).1 (fun e => hap1 e.symm)).trans hb2; have hc3 : w3.cell? ⟨g, 0, none⟩ = some (.slice A1 (xs.length + (Lib.itoa i).length) c1) := (by simp [World.cell?, hb3]); have hf3 : w3.frozen? ⟨g, 0, none⟩ = false := (by simp [World.frozen?, hb3]); have hap3 := row_apart hown3 hb3 (by decide); obtain ⟨A3, c3, rfl⟩ := row_slice hown3)
    | go_in)
  go_end0
  obtain ⟨hown4, hb4⟩ := store_ink hb3 hown3
  have e1 : xs ++ Lib.byteCells (Lib.itoa i) ++ [Value.int .u8 32] = xs ++ inkInt i := by rw [inkInt, List.append_assoc]
  have e2 : xs.length + (Lib.itoa i).length + 1 = (xs ++ inkInt i).length := by simp [inkInt, Lib.byteCells]; omega
  rw [e1, e2] at hown4
  refine ⟨rfl, ⟨_, hb4, ?_⟩, hB3.setCell (p := ⟨g, 0, none⟩) hBg _, fun k o hk hne ho => ?_⟩
  · rw [← e2]
    rw [← e2] at hown4
    exact hown4
  · have hkg : k ≠ g := fun e => hne (by rw [e])
    have h5 := hok1 k o hk (by simp) ho
    have h6 := (heap_setCell_other w1 ⟨g, 0, none⟩ k (.slice A1 (xs.length + (Lib.itoa i).length) c1) hkg).trans h5
    have h7 := (hg3.block k (Array.getElem?_eq_some_iff.1 h6).1 (fun e => row_other hown2 h6 ho e.symm)).trans h6
    exact (heap_setCell_other w3 ⟨g, 0, none⟩ k _ hkg).trans h7
end Go.Proofs.YtlkameeaaplonaaDoor

/- told: what the ink writes of a histogram and an error. Conditions: the counts lie below, are whole numbers of the kind and not too many; the table of powers of ten lies below. -/
namespace Go.Proofs.YtlkameeaaplonaaDoor
open Go.Shelf Go.RowKit Go.Proofs.YtlkameeaaplonaaDoor.QMeasureExpectedMatchesSpec
open Go.Proofs.YtlkameeaaplonaaDoorW.PrintWords
/-- The bytes of a number. -/
def inkB (i : Int) : List UInt8 := Lib.itoa i ++ [32]
abbrev Ink (B g : Nat) (bs : List UInt8) (w : World) : Prop := Inked B g (Lib.byteCells bs) w
abbrev in64 (i : Int) : Prop := -9223372036854775808 ≤ i ∧ i ≤ 9223372036854775807
theorem inkB_len (i : Int) (h : in64 i) : (inkB i).length ≤ 22 := by
  have := Lib.itoa_length_le i h.1 h.2
  simp [inkB]
  omega
theorem ink_cells (bs : List UInt8) (i : Int) : Lib.byteCells bs ++ inkInt i = Lib.byteCells (bs ++ inkB i) := by
  simp [Lib.byteCells, inkInt, inkB]
theorem cells_len (bs : List UInt8) : (Lib.byteCells bs).length = bs.length := by simp [Lib.byteCells]
theorem ink_num (B g : Nat) (bs : List UInt8) (i : Int) (w : World) (h : in64 i) (hI : Ink B g bs w) (hBg : B ≤ g) (hlim : bs.length ≤ 1000000000)
    (htab : Lib.TabBelow Tryd.prog B w "internal/strconv.uint64pow10" .u64 Lib.pow10Tab) :
    Calls Tryd.prog 49 #[.pointer (some ⟨g, 0, none⟩), .int .i64 i] w fun e w' => e = .returned (.tuple #[]) ∧ Ink B g (bs ++ inkB i) w' ∧ Below B w w' ∧ Lib.OthersKept 5 (some g) w w' :=
  (ink_int B g _ i w h.1 h.2 hI hBg (by rw [cells_len]; omega) htab).mono fun e w' ⟨h1, h2, h3, h4⟩ => ⟨h1, by unfold Ink; rw [← ink_cells]; exact h2, h3, h4⟩
theorem ink_errno (B g : Nat) (bs : List UInt8) (i : Int) (w : World) (h : in64 i) (hI : Ink B g bs w) (hBg : B ≤ g) (hlim : bs.length ≤ 1000000000)
    (htab : Lib.TabBelow Tryd.prog B w "internal/strconv.uint64pow10" .u64 Lib.pow10Tab) :
    Calls Tryd.prog 30 #[.pointer (some ⟨g, 0, none⟩), .int .i64 i] w fun e w' => e = .returned (.tuple #[]) ∧ Ink B g (bs ++ inkB i) w' ∧ Below B w w' ∧ Lib.OthersKept 5 (some g) w w' := by
  have hn := ink_num B g bs i w h hI hBg hlim htab
  go_enter Tryd.func30, Tryd.ntmps30
  go_wp2_with (first
    | (go_at_call 49; refine hn.mono ?_; rintro e w1 ⟨rfl, h1, h2, h3⟩)
    | go_in)
  go_end0
  exact ⟨rfl, h1, h2, h3⟩
/-- The bytes of counts. -/
def inkCounts : List S44 → List UInt8
  | [] => []
  | s :: r => inkB s.f0 ++ inkB s.f1 ++ inkCounts r
theorem inkCounts_snoc (s : S44) : ∀ l : List S44, inkCounts (l ++ [s]) = inkCounts l ++ inkB s.f0 ++ inkB s.f1
  | [] => by simp [inkCounts]
  | x :: r => by simp only [List.cons_append, inkCounts, inkCounts_snoc s r, List.append_assoc]
theorem inkCounts_len : ∀ l : List S44, (∀ s ∈ l, in64 s.f0 ∧ in64 s.f1) → (inkCounts l).length ≤ 44 * l.length
  | [], _ => by simp [inkCounts]
  | x :: r, h => by
    have h1 := inkCounts_len r (fun s hs => h s (by simp [hs]))
    have h2 := h x (by simp)
    have h3 := inkB_len x.f0 h2.1
    have h4 := inkB_len x.f1 h2.2
    simp only [inkCounts, List.length_append, List.length_cons]
    omega
set_option maxRecDepth 100000 in
set_option maxHeartbeats 4000000 in
theorem ink_hist (B g : Nat) (bs : List UInt8) (bits : Int) (A : Option Addr) (c : Nat) (l : List S44) (w : World) (hbits : in64 bits) (hl : l.length ≤ 1000000) (hb : ∀ s ∈ l, in64 s.f0 ∧ in64 s.f1)
    (hI : Ink B g bs w) (hBg : B ≤ g) (hlim : bs.length ≤ 1000) (hC : ∀ W, Below B w W → Kd.C k44 W A l.length l)
    (htab : Lib.TabBelow Tryd.prog B w "internal/strconv.uint64pow10" .u64 Lib.pow10Tab) :
    Calls Tryd.prog 29 #[.pointer (some ⟨g, 0, none⟩), .agg #[.int .i64 bits, .slice A l.length c]] w fun e w' => e = .returned (.tuple #[]) ∧ Ink B g (bs ++ (inkB bits ++ inkB (l.length : Int) ++ inkCounts l)) w' ∧ Below B w w' ∧ Lib.OthersKept 5 (some g) w w' := by
  have hgl : g < w.heap.size := by obtain ⟨v, hv, _⟩ := hI; exact (Array.getElem?_eq_some_iff.1 hv).1
  have hB0 : Below B w (w.alloc (.cells #[.int .i64 bits, .slice A l.length c] 25)) := (Below.refl B w).alloc (by omega) _
  have hO0 : Lib.OthersKept 5 (some g) w (w.alloc (.cells #[.int .i64 bits, .slice A l.length c] 25)) := (Lib.OthersKept.refl 5 (some g) w).alloc _
  have hI0 : Ink B g bs (w.alloc (.cells #[.int .i64 bits, .slice A l.length c] 25)) := by
    obtain ⟨v, hv, ho⟩ := hI
    exact ⟨v, (Below.heap_alloc _ _ _ hgl).trans hv, ho.alloc _⟩
  have hbx := heap_alloc_new w (.cells #[.int .i64 bits, .slice A l.length c] 25)
  have hkb : ∀ W, Lib.OthersKept 5 (some g) (w.alloc (.cells #[.int .i64 bits, .slice A l.length c] 25)) W → W.heap[w.heap.size]? = some (.cells #[.int .i64 bits, .slice A l.length c] 25 (0, 0)) := fun W h =>
    h _ _ hbx (fun e => by have := Option.some.inj e; omega) (fun c fz hh => by injection hh with _ hh2; exact absurd hh2 (by decide))
  have hc1 : ∀ W, Lib.OthersKept 5 (some g) (w.alloc (.cells #[.int .i64 bits, .slice A l.length c] 25)) W → W.cell? ⟨w.heap.size, 1, none⟩ = some (.slice A l.length c) := fun W h => by simp only [World.cell?, hkb W h]; rfl
  have h22 := inkB_len bits hbits
  have h23 := inkB_len (l.length : Int) ⟨by omega, by omega⟩
  have hn1 := ink_num B g bs bits _ hbits hI0 hBg (by omega) (htab.on hB0)
  go_enter Tryd.func29, Tryd.ntmps29
  go_wp2_with (first
    | (go_at_call 49; with_reducible refine hn1.mono ?_; clear hn1; rintro e w1 ⟨rfl, hI1, hB1, hO1⟩; have k1 := hc1 _ hO1; have hn2 := ink_num B g _ (l.length : Int) w1 ⟨by omega, by omega⟩ hI1 hBg (by simp only [List.length_append]; omega) (htab.on (hB0.trans hB1)))
    | (go_at_call 49; with_reducible refine hn2.mono ?_; clear hn2; rintro e w2 ⟨rfl, hI2, hB2, hO2⟩)
    | go_in)
  have hB12 := hB0.trans (hB1.trans hB2)
  have hO12 := hO1.trans hO2
  clear hI1 hB1 hO1 k1 hB2 hO2 hI0
  obtain ⟨pf, hpf⟩ : ∃ pf, bs ++ inkB bits ++ inkB (l.length : Int) = pf := ⟨_, rfl⟩
  have hpl : pf.length ≤ 1044 := by rw [← hpf]; simp only [List.length_append]; omega
  rw [hpf] at hI2
  have HPF := Aside0.mk hpf
  clear hpf
  go_loopw [4] (fun s4 wr => ∃ k : Nat, k ≤ l.length ∧ s4 = .int .i64 k ∧ Ink B g (pf ++ inkCounts (l.take k)) wr ∧ Below B w wr ∧ Lib.OthersKept 5 (some g) (w.alloc (.cells #[.int .i64 bits, .slice A l.length c] 25)) wr) (fun s _ => l.length - (intOf s).toNat)
  case atStart => exact ⟨0, Nat.zero_le _, rfl, by simpa [inkCounts] using hI2, hB12, hO12⟩
  case round =>
    obtain ⟨k, hk, rfl, hIr, hBr, hOr⟩ := hrel
    have kc := hc1 _ hOr
    by_cases hlt : k < l.length
    · have hd : decide ((k : Int) < (l.length : Int)) = true := decide_eq_true (by omega)
      have hCr := hC _ hBr
      obtain ⟨ad, rfl, q0, q1⟩ := at_T44 hCr (k : Int) (by omega) (by omega)
      rw [Int.toNat_natCast] at q0 q1
      have hin : rd_T44 l (k : Int) ∈ l := by simp [rd_T44, List.getD, List.getElem?_eq_getElem hlt]
      have htk : l.take (k + 1) = l.take k ++ [rd_T44 l (k : Int)] := by
        rw [List.take_succ_eq_append_getElem hlt]
        simp [rd_T44, List.getD, List.getElem?_eq_getElem hlt]
      have hlen := inkCounts_len (l.take k) (fun s hs => hb s (List.mem_of_mem_take hs))
      rw [List.length_take] at hlen
      have hsb := hb _ hin
      have hcs : inkCounts (l.take (k + 1)) = inkCounts (l.take k) ++ inkB (rd_T44 l (k : Int)).f0 ++ inkB (rd_T44 l (k : Int)).f1 := by rw [htk, inkCounts_snoc]
      have q1' : ∀ W, Below B w W → W.cell? ⟨(ad.add (k * 2)).block, (ad.add (k * 2)).off + 1, none⟩ = some (.int .i64 (rd_T44 l (k : Int)).f1) := fun W h => by
        obtain ⟨ad2, e2, _, p1⟩ := at_T44 (hC _ h) (k : Int) (by omega) (by omega)
        obtain rfl : ad = ad2 := by injection e2
        rw [Int.toNat_natCast] at p1
        exact p1
      clear htk hin
      have HCS := Aside0.mk hcs
      clear hcs
      generalize hs : rd_T44 l (k : Int) = s at q0 q1 q1' hsb
      have HS := Aside0.mk hs
      clear hs
      obtain ⟨pk, hpk⟩ : ∃ pk, pf ++ inkCounts (l.take k) = pk := ⟨_, rfl⟩
      have hpkl : pk.length ≤ 44001044 := by rw [← hpk]; simp only [List.length_append]; omega
      rw [hpk] at hIr
      have HPK := Aside0.mk hpk
      clear hpk hlen
      have h24 := inkB_len s.f0 hsb.1
      have hm1 := ink_num B g pk s.f0 wr hsb.1 hIr hBg (by omega) (htab.on hBr)
      go_wp2_with (first
        | (go_at_call 49; with_reducible refine hm1.mono ?_; clear hm1; rintro e w3 ⟨rfl, hI3, hB3, hO3⟩; have hB3' := hBr.trans hB3; have hO3' := hOr.trans hO3; have kc3 := hc1 _ hO3'; have q3 := q1' _ hB3'; have hm2 := ink_num B g _ s.f1 w3 hsb.2 hI3 hBg (by simp only [List.length_append]; omega) (htab.on hB3'))
        | (go_at_call 49; with_reducible refine hm2.mono ?_; clear hm2; rintro e w4 ⟨rfl, hI4, hB4, hO4⟩)
        | go_in)
      refine ⟨⟨k + 1, by omega, by simp, ?_, hB3'.trans hB4, hO3'.trans hO4⟩, by simp [intOf]; omega⟩
      rw [HCS.out, HS.out, ← List.append_assoc, ← List.append_assoc, HPK.out]
      exact hI4
    · have hke : k = l.length := by omega
      subst hke
      go_wp2
      go_end0
      refine ⟨rfl, ?_, hBr, hO0.trans hOr⟩
      rw [List.take_length, ← HPF.out] at hIr
      rw [← List.append_assoc, ← List.append_assoc]
      exact hIr
set_option maxHeartbeats 4000000 in
/-- What has been written. -/
theorem ink_told (B g : Nat) (bs : List UInt8) (w : World) (hI : Ink B g bs w) (hne : bs.length ≠ 0) :
    Calls Tryd.prog 31 #[.pointer (some ⟨g, 0, none⟩)] w fun e w' => e = .returned (.string ⟨bs.toArray⟩) ∧ w' = w := by
  obtain ⟨v, hb, hown⟩ := hI
  rcases hown.2 with ⟨_, h0⟩ | ⟨gg, cap, cur, rfl, _⟩
  · exact absurd h0 (by rw [cells_len]; exact hne)
  have hcell := hown.cells (g := gg) rfl
  have hc : w.cell? ⟨g, 0, none⟩ = some (.slice (some ⟨gg, 0, none⟩) bs.length cap) := by simp [World.cell?, hb, cells_len]
  have hcv := run_convert_bytes_back (P := Tryd.prog) w 48 9 5 ⟨gg, 0, none⟩ cap bs Tryd.underlying48 Tryd.underlying5 Tryd.underlying9 (fun j hj => by
    have := hcell j (.int .u8 (bs[j].toNat : Int)) (by simp [Lib.byteCells, List.getElem?_eq_getElem hj])
    simpa using this)
  clear hb hown hcell
  go_enter Tryd.func31, Tryd.ntmps31
  go_wp2
  go_ret
  exact ⟨rfl, rfl⟩
/-- What told tells of a histogram and an error. -/
def toldS (bits : Int) (l : List S44) (e : Int) : ByteArray := ⟨(inkB bits ++ inkB (l.length : Int) ++ inkCounts l ++ inkB e).toArray⟩
set_option maxRecDepth 100000 in
set_option maxHeartbeats 4000000 in
theorem told11 (bits er : Int) (A : Option Addr) (c : Nat) (l : List S44) (w : World) (hbits : in64 bits) (her : in64 er) (hl : l.length ≤ 1000000) (hb : ∀ s ∈ l, in64 s.f0 ∧ in64 s.f1) (hC : Kd.C k44 w A l.length l)
    (htab : Lib.TabBelow Tryd.prog w.heap.size w "internal/strconv.uint64pow10" .u64 Lib.pow10Tab) :
    Calls Tryd.prog 11 #[.agg #[.int .i64 bits, .slice A l.length c], .int .i64 er] w fun e w' => e = .returned (.string (toldS bits l er)) ∧ Below w.heap.size w w' := by
  have hB0 : Below w.heap.size w ((w.alloc (.cells #[.int .i64 bits, .slice A l.length c] 25)).alloc (.cells #[.slice none 0 0] 50)) := ((Below.refl _ w).alloc (Nat.le_refl _) _).alloc (by simp) _
  have hI0 : Ink w.heap.size (w.heap.size + 1) [] ((w.alloc (.cells #[.int .i64 bits, .slice A l.length c] 25)).alloc (.cells #[.slice none 0 0] 50)) := by
    refine ⟨.slice none 0 0, ?_, rfl, .inl ⟨rfl, rfl⟩⟩
    have := heap_alloc_new (w.alloc (.cells #[.int .i64 bits, .slice A l.length c] 25)) (.cells #[.slice none 0 0] 50)
    rwa [World.size_alloc] at this
  have hh := ink_hist w.heap.size (w.heap.size + 1) [] bits A c l _ hbits hl hb hI0 (by omega) (by simp) (fun W h => Kd.C_below hC (hB0.trans h)) (htab.on hB0)
  rw [List.nil_append] at hh
  have h22 := inkB_len bits hbits
  have h23 := inkB_len (l.length : Int) ⟨by omega, by omega⟩
  have h24 := inkB_len er her
  have hcl := inkCounts_len l hb
  obtain ⟨p1, hp1⟩ : ∃ p1, inkB bits ++ inkB (l.length : Int) ++ inkCounts l = p1 := ⟨_, rfl⟩
  have hp1l : p1.length ≤ 44000044 := by rw [← hp1]; simp only [List.length_append]; omega
  rw [hp1] at hh
  have hT : toldS bits l er = ⟨(p1 ++ inkB er).toArray⟩ := by rw [toldS, hp1]
  have hpos : (p1 ++ inkB er).length ≠ 0 := by simp [inkB]
  have HT := Aside0.mk hT
  clear hp1 hT
  go_enter Tryd.func11, Tryd.ntmps11
  go_wp2_with (first
    | (go_at_call 29; with_reducible refine hh.mono ?_; clear hh; rintro e w1 ⟨rfl, hI1, hB1, hO1⟩; have hB1' := hB0.trans hB1; have he1 := ink_errno w.heap.size (w.heap.size + 1) p1 er w1 her hI1 (by omega) (by omega) (htab.on hB1'))
    | (go_at_call 30; with_reducible refine he1.mono ?_; clear he1; rintro e w2 ⟨rfl, hI2, hB2, hO2⟩; have ht2 := ink_told _ _ _ w2 hI2 hpos)
    | (go_at_call 31; with_reducible refine ht2.mono ?_; clear ht2; rintro e w3 ⟨rfl, rfl⟩)
    | go_in)
  go_ret
  refine ⟨?_, hB1'.trans hB2⟩
  rw [HT.out]
  rfl
end Go.Proofs.YtlkameeaaplonaaDoor

/- slices.Insert of one number into a row of the call's own: the row with the number at its place. Conditions: the place is not behind the end, the row is short. -/
namespace Go.Proofs.YtlkameeaaplonaaDoor
open Go.Shelf Go.RowKit
def lays21_ren : Go.Shelf.Ren := ⟨fun | 21 => 60 | 27 => 64 | 28 => 65 | 35 => 68 | 39 => 73 | n => n, fun | 22 => 22 | 3 => 3 | 4 => 4 | 0 => 0 | n => n, fun n => n⟩
theorem lays21 : Lays2.n21 Tryd.prog lays21_ren := {
  mixed := by kernel_rfl
  f21 := Tryd.func60.trans (congrArg some (by kernel_rfl))
  f27 := Tryd.func64.trans (congrArg some (by kernel_rfl))
  f28 := Tryd.func65.trans (congrArg some (by kernel_rfl))
  f35 := Tryd.func68.trans (congrArg some (by kernel_rfl))
  f39 := Tryd.func73.trans (congrArg some (by kernel_rfl))
  t0 := Tryd.underlying0
  a0 := Tryd.isAgg0
  z0 := Tryd.sizeOf0
  v0 := Tryd.zeroValue0
  t3 := Tryd.underlying3
  a3 := Tryd.isAgg3
  z3 := Tryd.sizeOf3
  v3 := Tryd.zeroValue3
  t4 := Tryd.underlying4
  a4 := Tryd.isAgg4
  z4 := Tryd.sizeOf4
  v4 := Tryd.zeroValue4
  t22 := Tryd.underlying22
  a22 := Tryd.isAgg22
  z22 := Tryd.sizeOf22
  v22 := Tryd.zeroValue22
  i3 := by kernel_rfl }

theorem set_cells (g : Nat) (t : TypeId) : ∀ (vs : List Value) (o : Nat) (cur : Array Value) (w : World), w.heap[g]? = some (.cells cur t (0, 0)) → o + vs.length ≤ cur.size →
    ∃ cur' : Array Value, (w.setCells g o vs).heap[g]? = some (.cells cur' t (0, 0)) ∧ cur'.toList = cur.toList.take o ++ (vs ++ cur.toList.drop (o + vs.length))
  | [], o, cur, w, h, _ => ⟨cur, h, by simp⟩
  | v :: r, o, cur, w, h, hl => by
    simp only [List.length_cons] at hl
    have h1 := heap_setCell_same w g o cur t v h
    obtain ⟨cur', h2, h3⟩ := set_cells g t r (o + 1) (cur.setIfInBounds o v) (w.setCell ⟨g, o, none⟩ v) h1 (by simp; omega)
    refine ⟨cur', h2, ?_⟩
    rw [h3]
    have ho : o < cur.toList.length := by simp; omega
    have e1 : (cur.setIfInBounds o v).toList = cur.toList.set o v := by simp
    have e2 : (cur.toList.set o v).take (o + 1) = cur.toList.take o ++ [v] := by
      have hl2 : (cur.toList.take o).length = o := by rw [List.length_take]; omega
      rw [List.take_set, List.take_succ_eq_append_getElem ho, List.set_append, if_neg (by omega), hl2, Nat.sub_self]
      rfl
    have e3 : (cur.toList.set o v).drop (o + 1 + r.length) = cur.toList.drop (o + 1 + r.length) := by rw [List.drop_set_of_lt (by omega)]
    rw [e1, e2, e3]
    simp only [List.append_assoc, List.cons_append, List.nil_append, List.length_cons]
    rw [show o + 1 + r.length = o + (r.length + 1) from by omega]
theorem set_other (g : Nat) : ∀ (vs : List Value) (o : Nat) (w : World) (k : Nat), k ≠ g → (w.setCells g o vs).heap[k]? = w.heap[k]?
  | [], _, _, _, _ => rfl
  | v :: r, o, w, k, hne => (set_other g r (o + 1) (w.setCell ⟨g, o, none⟩ v) k hne).trans (heap_setCell_other w ⟨g, o, none⟩ k v hne)
theorem set_sizes (g : Nat) : ∀ (vs : List Value) (o : Nat) (w : World), (w.setCells g o vs).os = w.os ∧ (w.setCells g o vs).tape = w.tape ∧ (w.setCells g o vs).output = w.output ∧ (w.setCells g o vs).heap.size = w.heap.size
  | [], _, _ => ⟨rfl, rfl, rfl, rfl⟩
  | v :: r, o, w => by
    obtain ⟨a, b, c, d⟩ := set_sizes g r (o + 1) (w.setCell ⟨g, o, none⟩ v)
    exact ⟨a, b, c, d.trans (by simp [World.setCell])⟩
theorem grown_set (g : Nat) (vs : List Value) (o : Nat) (w : World) : w.grownBy (w.setCells g o vs) (some g) := by
  obtain ⟨a, b, c, d⟩ := set_sizes g vs o w
  exact ⟨a, b, c, by omega, fun k _ hne => set_other g vs o w k (fun e => hne (by rw [e]))⟩

/-- The row with one number more. -/
def put (xs : List Int) (i : Nat) (x : Int) : List Int := xs.take i ++ (x :: xs.drop i)
theorem put_length (xs : List Int) (i : Nat) (x : Int) (h : i ≤ xs.length) : (put xs i x).length = xs.length + 1 := by simp [put]; omega

theorem ins (B g1 : Nat) (v : Value) (xs : List Int) (i : Nat) (x : Int) (w : World) (hi : i ≤ xs.length) (hx : (Lit.int .i64 x).wf = true) (hown : w.ownsInts B 3 .i64 v xs)
    (hg1 : w.heap[g1]? = some (.cells #[.int .i64 x] 3 (0, 0))) (hne : v.ownBlock ≠ some g1) (hB : B ≤ w.heap.size) (hs : xs.length + 1 ≤ 17592186044416) :
    Calls Tryd.prog 60 #[v, .int .i64 i, .slice (some ⟨g1, 0, none⟩) 1 1] w fun e w' => ∃ v', e = .returned v' ∧ w'.ownsInts B 3 .i64 v' (put xs i x) ∧ w.grownBy w' v.ownBlock ∧
      (v'.ownBlock = v.ownBlock ∨ ∃ g, v'.ownBlock = some g ∧ w.heap.size ≤ g) := by
  have hvs : ∀ j u, [Value.int .i64 x][j]? = some u → w.cell? ⟨g1, 0 + j, none⟩ = some u := by
    intro j u hj
    match j, hj with
    | 0, hj =>
      simp at hj
      subst hj
      simp [World.cell?, hg1]
  have h1v : ∀ u ∈ [Value.int .i64 x], u.oneCell' = true := by
    intro u hu
    rw [List.mem_singleton.1 hu]
    rfl
  have hwf : ∀ z ∈ put xs i x, (Lit.int .i64 z).wf = true := by
    intro z hz
    unfold put at hz
    rcases List.mem_append.1 hz with hz | hz
    · exact hown.2 z (List.mem_of_mem_take hz)
    · rcases List.mem_cons.1 hz with rfl | hz
      · exact hx
      · exact hown.2 z (List.mem_of_mem_drop hz)
  have hlen := put_length xs i x hi
  have hmap : (put xs i x).map (Value.int .i64) = (xs.map (Value.int .i64)).take i ++ (Value.int .i64 x :: (xs.map (Value.int .i64)).drop i) := by simp [put]
  have h1c : ∀ u ∈ xs.map (Value.int .i64), u.oneCell' = true := by
    intro u hu
    obtain ⟨z, _, rfl⟩ := List.mem_map.1 hu
    rfl
  -- what a new row holds
  have fresh : ∀ (w1 : World) (cap : Nat) (cur : Array Value), w1.heap[w.heap.size]? = some (.cells cur 3 (0, 0)) → xs.length + 1 ≤ cap → cap ≤ maxLen → cur.size = cap → cur.toList.take (xs.length + 1) = (put xs i x).map (Value.int .i64) →
      w1.ownsInts B 3 .i64 (.slice (some ⟨w.heap.size, 0, none⟩) (xs.length + 1) cap) (put xs i x) := by
    intro w1 cap cur h1 h2 h3 h4 h5
    refine ⟨⟨by simp [hlen], .inr ⟨w.heap.size, cap, cur, by rw [hlen], hB, h1, by omega, h3, by omega, ?_⟩⟩, hwf⟩
    rw [hlen, Nat.mul_one]
    exact h5
  have hml : (17592186044416 : Nat) ≤ maxLen := by decide
  have hmx : maxLen ≤ 9223372036854775807 := by decide
  have hz1 : (Value.int .i64 0).cells.size = 1 := rfl
  rcases hown.1.2 with ⟨rfl, h0⟩ | ⟨g, cap, cur, rfl, hbg, hg, hnc, hcm, hcs, htake⟩
  · -- nil
    have hx0 : xs = [] := List.eq_nil_of_length_eq_zero h0
    subst hx0
    have hi0 : i = 0 := by simpa using hi
    subst hi0
    have hcap := grownCap_ge w 1 0 3
    have hcap2 := grownCap_le_maxLen w 1 0 3 (by decide)
    have hc := Any2.slices_Insert_int_end_grow lays21 none 0 0 g1 0 1 1 [] [.int .i64 x] w (by decide) (by decide) (by decide) (by decide) rfl rfl (fun _ => rfl) (fun a h => by cases h) hvs h1v
    refine hc.mono ?_
    rintro e w' ⟨rfl, rfl⟩
    refine ⟨_, rfl, fresh _ _ _ (heap_alloc_new w.drew _) hcap hcap2 ?_ ?_, ⟨rfl, rfl, rfl, by simp, fun k hk _ => Below.heap_alloc w.drew _ k hk⟩, .inr ⟨w.heap.size, rfl, Nat.le_refl _⟩⟩
    · have : lays21_ren.t 3 = 3 := rfl
      rw [this]
      simp only [Array.size_append, List.size_toArray, size_zeroCells, hz1, List.nil_append, List.length_singleton, Nat.zero_add]
      omega
    · simp [put]
  · have hcells : ∀ j u, (xs.map (Value.int .i64))[j]? = some u → w.cell? ⟨g, 0 + j, none⟩ = some u := by
      intro j u hu
      have := hown.1.cells (g := g) rfl j u hu
      rw [Addr.add_lit] at this
      exact this
    have hcur : cur.size = cap := by omega
    have hgne : g1 ≠ g := fun e => hne (by simp [Value.ownBlock, e])
    by_cases hroom : xs.length + 1 ≤ cap
    · have hsome : ∀ j, j < xs.length + 1 → (w.cell? ⟨g, 0 + j, none⟩).isSome = true := by
        intro j hj
        simp [World.cell?, hg]
        omega
      have hfr : ∀ j, w.frozen? ⟨g, j, none⟩ = false := by
        intro j
        simp [World.frozen?, hg]
      by_cases hend : i = xs.length
      · subst hend
        have hc := Any2.slices_Insert_int_end_room lays21 g 0 xs.length cap g1 0 1 1 [.int .i64 x] w (by decide) hroom (by omega) rfl (fun j hj => by rw [show 0 + xs.length + j = 0 + (xs.length + j) from by omega]; exact hsome _ (by omega)) (fun j _ => hfr _) hvs h1v
        refine hc.mono ?_
        rintro e w' ⟨rfl, rfl⟩
        obtain ⟨cur', h1, h2⟩ := set_cells g 3 [.int .i64 x] (0 + xs.length) cur w hg (by simp; omega)
        have h3 : cur'.size = cap := by
          have := congrArg List.length h2
          simp at this
          omega
        refine ⟨_, rfl, ⟨⟨by simp [hlen], .inr ⟨g, cap, cur', by rw [hlen], hbg, h1, by omega, hcm, by omega, ?_⟩⟩, hwf⟩, grown_set _ _ _ _, .inl rfl⟩
        rw [h2, hlen, hmap]
        rw [Nat.mul_one] at htake
        simp only [Nat.zero_add, Nat.mul_one]
        rw [htake, ← List.append_assoc]
        rw [List.take_append_of_le_length (by simp)]
        rw [List.take_of_length_le (by simp)]
        have e1 : (xs.map (Value.int .i64)).take xs.length = xs.map (Value.int .i64) := List.take_of_length_le (by simp)
        have e2 : (xs.map (Value.int .i64)).drop xs.length = [] := List.drop_of_length_le (by simp)
        rw [e1, e2]
      · have hc := Any2.slices_Insert_int_shift lays21 g 0 xs.length cap i g1 0 1 1 (xs.map (Value.int .i64)) [.int .i64 x] w (by omega) (by decide) hroom (by omega) hgne (by simp) rfl hcells hsome (fun j _ => hfr _) hvs h1c h1v 3 3 1 cap
          (by simp [World.shape?, hg1]) (by simp [World.shape?, hg, hcur]) (by omega) (by simp [World.frozen?, hg1]) (by simp [World.frozen?, hg1])
        refine hc.mono ?_
        rintro e w' ⟨rfl, rfl⟩
        obtain ⟨cur1, h1, h2⟩ := set_cells g 3 ((xs.map (Value.int .i64)).drop i) (0 + (i + 1)) cur w.drew hg (by simp; omega)
        have h3 : cur1.size = cap := by
          have := congrArg List.length h2
          simp at this
          omega
        obtain ⟨cur', h4, h5⟩ := set_cells g 3 [.int .i64 x] (0 + i) cur1 _ h1 (by simp; omega)
        have h6 : cur'.size = cap := by
          have := congrArg List.length h5
          simp at this
          omega
        refine ⟨_, rfl, ⟨⟨by simp [hlen], .inr ⟨g, cap, cur', by rw [hlen], hbg, h4, by omega, hcm, by omega, ?_⟩⟩, hwf⟩, ?_, .inl rfl⟩
        · rw [h5, h2, hlen, hmap]
          rw [Nat.mul_one] at htake
          have hl1 : (cur.toList.take (i + 1)).length = i + 1 := by simp; omega
          have e0 : cur.toList.take i = (xs.map (Value.int .i64)).take i := by rw [← htake, List.take_take, Nat.min_eq_left hi]
          simp only [Nat.zero_add, Nat.mul_one, List.length_singleton, List.length_drop, List.length_map]
          rw [show i + 1 + (xs.length - i) = xs.length + 1 from by omega]
          have e1 : (cur.toList.take (i + 1) ++ ((xs.map (Value.int .i64)).drop i ++ cur.toList.drop (xs.length + 1))).take i = (xs.map (Value.int .i64)).take i := by
            rw [List.take_append_of_le_length (by omega), List.take_take, Nat.min_eq_left (by omega), e0]
          have e2 : (cur.toList.take (i + 1) ++ ((xs.map (Value.int .i64)).drop i ++ cur.toList.drop (xs.length + 1))).drop (i + 1) = (xs.map (Value.int .i64)).drop i ++ cur.toList.drop (xs.length + 1) := by
            rw [List.drop_append_of_le_length (by omega), List.drop_of_length_le (by omega), List.nil_append]
          rw [e1, e2]
          have e3 : (xs.map (Value.int .i64)).take i ++ ([Value.int .i64 x] ++ ((xs.map (Value.int .i64)).drop i ++ cur.toList.drop (xs.length + 1))) = ((xs.map (Value.int .i64)).take i ++ (Value.int .i64 x :: (xs.map (Value.int .i64)).drop i)) ++ cur.toList.drop (xs.length + 1) := by simp
          rw [e3]
          exact List.take_left' (by simp; omega)
        · have g1_ := grown_set g ((xs.map (Value.int .i64)).drop i) (0 + (i + 1)) w.drew
          have g2_ := grown_set g [.int .i64 x] (0 + i) (w.drew.setCells g (0 + (i + 1)) ((xs.map (Value.int .i64)).drop i))
          have g3_ := g1_.trans g2_
          exact ⟨g3_.os, g3_.tape, g3_.output, g3_.size, g3_.block⟩
    · have hcap : cap = xs.length := by omega
      have hge := grownCap_ge w (xs.length + 1) cap 3
      have hle := grownCap_le_maxLen w (xs.length + 1) cap 3 (by omega)
      by_cases hend : i = xs.length
      · subst hend
        have hc := Any2.slices_Insert_int_end_grow lays21 (some ⟨g, 0, none⟩) xs.length cap g1 0 1 1 (xs.map (Value.int .i64)) [.int .i64 x] w (by decide) hnc (by omega) (by omega) (by simp) rfl (fun h => by cases h)
          (fun a h j u hu => by cases h; rw [Addr.add_lit]; exact hcells j u hu) hvs h1v
        refine hc.mono ?_
        rintro e w' ⟨rfl, rfl⟩
        refine ⟨_, rfl, fresh _ _ _ (heap_alloc_new w.drew _) hge hle ?_ ?_, ⟨rfl, rfl, rfl, by simp, fun k hk _ => Below.heap_alloc w.drew _ k hk⟩, .inr ⟨w.heap.size, rfl, Nat.le_refl _⟩⟩
        · have : lays21_ren.t 3 = 3 := rfl
          rw [this]
          simp only [Array.size_append, List.size_toArray, size_zeroCells, hz1, List.length_append, List.length_map, List.length_singleton]
          omega
        · rw [hmap]
          have e1 : (xs.map (Value.int .i64)).take xs.length = xs.map (Value.int .i64) := List.take_of_length_le (by simp)
          have e2 : (xs.map (Value.int .i64)).drop xs.length = [] := List.drop_of_length_le (by simp)
          rw [e1, e2]
          simp only [Array.toList_append, List.append_assoc]
          rw [← List.append_assoc]
          exact List.take_left' (by simp)
      · have hc := Any2.slices_Insert_int_grow lays21 g 0 xs.length cap i g1 0 1 1 (xs.map (Value.int .i64)) [.int .i64 x] w (by omega) (by decide) hnc (by omega) (by omega) (by simp) rfl hcells hvs h1c h1v
        refine hc.mono ?_
        rintro e w' ⟨rfl, rfl⟩
        have : lays21_ren.t 3 = 3 := rfl
        rw [this]
        obtain ⟨cur0, hc0⟩ : ∃ c : Array Value, c = (((xs.map (Value.int .i64)).take i).toArray ++ Builtin.zeroCells (Value.int .i64 0).cells (xs.length + 1 - i) ++ Builtin.zeroCells (Value.int .i64 0).cells (grownCap w (xs.length + 1) cap 3 - (xs.length + 1))) := ⟨_, rfl⟩
        rw [← hc0]
        have hs0 : cur0.size = grownCap w (xs.length + 1) cap 3 := by
          rw [hc0]
          have hz : (Value.int .i64 0).cells.size = 1 := rfl
          simp only [Array.size_append, List.size_toArray, List.length_take, List.length_map, size_zeroCells, hz]
          omega
        have ht0 : cur0.toList.take i = (xs.map (Value.int .i64)).take i := by
          rw [hc0]
          simp only [Array.toList_append, List.append_assoc]
          exact List.take_left' (by simp; omega)
        have hz : (w.alloc (.cells cur0 3)).heap[w.heap.size]? = some (.cells cur0 3 (0, 0)) := heap_alloc_new w _
        obtain ⟨cur1, h1, h2⟩ := set_cells w.heap.size 3 [.int .i64 x] i cur0 ((w.alloc (.cells cur0 3)).drew) hz (by simp; omega)
        have h3 : cur1.size = cur0.size := by
          have := congrArg List.length h2
          simp at this
          omega
        obtain ⟨cur', h4, h5⟩ := set_cells w.heap.size 3 ((xs.map (Value.int .i64)).drop i) (i + 1) cur1 (((w.alloc (.cells cur0 3)).drew.setCells w.heap.size i [.int .i64 x]).drew) h1 (by simp; omega)
        have h6 : cur'.size = cur0.size := by
          have := congrArg List.length h5
          simp at this
          omega
        refine ⟨_, rfl, fresh _ _ _ h4 hge hle (by omega) ?_, ?_, .inr ⟨w.heap.size, rfl, Nat.le_refl _⟩⟩
        · rw [h5, h2, ht0, hmap]
          have hl1 : ((xs.map (Value.int .i64)).take i).length = i := by simp; omega
          have e1 : ((xs.map (Value.int .i64)).take i ++ ([Value.int .i64 x] ++ cur0.toList.drop (i + [Value.int .i64 x].length))).take (i + 1) = (xs.map (Value.int .i64)).take i ++ [Value.int .i64 x] := by
            rw [← List.append_assoc]
            exact List.take_left' (by simp; omega)
          rw [e1]
          have e3 : ∀ q : List Value, ((xs.map (Value.int .i64)).take i ++ [Value.int .i64 x]) ++ ((xs.map (Value.int .i64)).drop i ++ q) = ((xs.map (Value.int .i64)).take i ++ (Value.int .i64 x :: (xs.map (Value.int .i64)).drop i)) ++ q := by intro q; simp
          rw [e3]
          exact List.take_left' (by simp; omega)
        · have q1 : w.grownBy ((w.alloc (.cells cur0 3)).drew) (some w.heap.size) := ⟨rfl, rfl, rfl, by simp, fun k hk _ => Below.heap_alloc w _ k hk⟩
          have q2 := grown_set w.heap.size [.int .i64 x] i ((w.alloc (.cells cur0 3)).drew)
          have q3 := grown_set w.heap.size ((xs.map (Value.int .i64)).drop i) (i + 1) (((w.alloc (.cells cur0 3)).drew.setCells w.heap.size i [.int .i64 x]).drew)
          have q4 := (q1.trans q2).trans (⟨q3.os, q3.tape, q3.output, q3.size, q3.block⟩ : ((w.alloc (.cells cur0 3)).drew.setCells w.heap.size i [.int .i64 x]).grownBy _ (some w.heap.size))
          exact ⟨q4.os, q4.tape, q4.output, q4.size, fun k hk _ => q4.block k hk (fun e => by have := Option.some.inj e; omega)⟩
end Go.Proofs.YtlkameeaaplonaaDoor

/- A list that stays sorted: put lays a number at the place that the search finds. Conditions: the list is a row of the call's own, short. -/
namespace Go.Proofs.YtlkameeaaplonaaDoor
open Go.Shelf Go.RowKit Go.Proofs.YtlkameeaaplonaaDoor.QMeasureExpectedMatchesSpec
open Go.Proofs.YtlkameeaaplonaaDoorW.PrintWords
theorem C_own {w : World} {B n c : Nat} {A : Option Addr} {xs : List Int} (h : w.ownsInts B 3 .i64 (.slice A n c) xs) : xs.length = n ∧ n ≤ c ∧ Kd.C (Kd.int .i64) w A n xs := by
  rcases h.1.2 with ⟨e, h0⟩ | ⟨g, cap, cur, e, hbg, hg, hnc, hcm, hcs, htake⟩
  · injection e with e1 e2 e3
    subst e1 e2 e3
    exact ⟨h0, Nat.le_refl _, h0, by omega, fun h => absurd h (by omega)⟩
  · injection e with e1 e2 e3
    subst e1 e2 e3
    have hcell := h.1.cells (g := g) rfl
    have hmx : maxLen ≤ 9223372036854775807 := by decide
    refine ⟨rfl, hnc, rfl, by omega, fun _ => ⟨_, rfl, fun j p hp => ⟨[.int .i64 p], rfl, rfl, fun i u hu => ?_⟩⟩⟩
    match i, hu with
    | 0, hu =>
      simp at hu
      subst hu
      have := hcell j (.int .i64 p) (by rw [List.getElem?_map, hp]; rfl)
      simpa [Kd.int, Kd.scalar] using this

theorem put43 (k B g : Nat) (v : Value) (xs : List Int) (i : Nat) (b : Bool) (x : Int) (w : World) (hi : i ≤ xs.length) (hx : (Lit.int .i64 x).wf = true) (hg : w.heap[g]? = some (.cells #[v] 71 (0, 0)))
    (hown : w.ownsInts B 3 .i64 v xs) (hB : B ≤ w.heap.size) (hs : xs.length + 1 ≤ 17592186044416) (hf : slices_BinarySearch_int_int.f k xs x = some ((i : Int), b)) :
    Calls Tryd.prog 53 #[.pointer (some ⟨g, 0, none⟩), .int .i64 x] w fun e w' => e = .returned (.tuple #[]) ∧ ∃ v' w1, w.grownBy w1 v.ownBlock ∧ w1.grownBy w' (some g) ∧ w'.heap[g]? = some (.cells #[v'] 71 (0, 0)) ∧
      w'.ownsInts B 3 .i64 v' (put xs i x) := by
  have hsl : ∃ A n c, v = .slice A n c := by
    rcases hown.1.2 with ⟨e, _⟩ | ⟨gg, cap, cur, e, _⟩
    · exact ⟨_, _, _, e⟩
    · exact ⟨_, _, _, e⟩
  have hvg : v.ownBlock ≠ some g := by
    intro e
    rcases hown.1.2 with ⟨rfl, _⟩ | ⟨gg, cap, cur, rfl, _, h2, _⟩
    · simp [Value.ownBlock] at e
    · simp [Value.ownBlock] at e
      subst e
      rw [hg] at h2
      injection h2 with h2
      injection h2 with _ h2
      exact absurd h2 (by decide)
  have hgl : g < w.heap.size := (Array.getElem?_eq_some_iff.1 hg).1
  obtain ⟨A, n, c, rfl⟩ := hsl
  obtain ⟨hln, hnc, hC⟩ := C_own hown
  subst hln
  have hc0 : w.cell? ⟨g, 0, none⟩ = some (.slice A xs.length c) := by simp [World.cell?, hg]
  have hf0 : w.frozen? ⟨g, 0, none⟩ = false := by simp [World.frozen?, hg]
  go_enter Tryd.func53, Tryd.ntmps53
  go_wp2_with (first
    | (go_at_call 59; refine (slices_BinarySearch_int_int.calls k A c xs x i b w hC hnc hf).mono ?_; rintro e w' ⟨rfl, ⟨nd, rfl⟩⟩)
    | (go_at_call 60; have hgw : ((w.drewN nd).alloc (.cells #[.int .i64 x] 3)).heap[g]? = some (.cells #[.slice A xs.length c] 71 (0, 0)) := (Below.heap_alloc (w.drewN nd) _ g (by exact hgl)).trans hg; refine (ins B w.heap.size (.slice A xs.length c) xs i x _ hi hx (World.ownsInts.alloc (show (w.drewN nd).ownsInts B 3 .i64 _ xs from hown) _) (heap_alloc_new (w.drewN nd) _) (fun e => by have := (hown.1.lt _ e).2; omega) (by simp; omega) hs).mono ?_; rintro e w2 ⟨v2, rfl, hown2, hgr2, hloc2⟩; have hg2 : w2.heap[g]? = some (.cells #[.slice A xs.length c] 71 (0, 0)) := (hgr2.block g (by simp; omega) (fun e => hvg e.symm)).trans hgw; have hc2 : w2.cell? ⟨g, 0, none⟩ = some (.slice A xs.length c) := (by simp [World.cell?, hg2]); have hf2 : w2.frozen? ⟨g, 0, none⟩ = false := (by simp [World.frozen?, hg2]); obtain ⟨A2, n2, c2, rfl⟩ : ∃ A n c, v2 = .slice A n c := (by rcases hown2.1.2 with ⟨e, _⟩ | ⟨gg, cap, cur, e, _⟩; exact ⟨_, _, _, e⟩; exact ⟨_, _, _, e⟩))
    | go_in)
  go_end0
  have hq : w.grownBy w2 (Value.slice A xs.length c).ownBlock := by
    have q1 : w.grownBy ((w.drewN nd).alloc (.cells #[.int .i64 x] 3)) (Value.slice A xs.length c).ownBlock := ⟨rfl, rfl, rfl, by simp, fun k hk _ => Below.heap_alloc (w.drewN nd) _ k hk⟩
    exact q1.trans hgr2
  have hv2 : (Value.slice A2 n2 c2).ownBlock ≠ some g := by
    intro e
    rcases hown2.1.2 with ⟨e2, _⟩ | ⟨gg, cap, cur, e2, _, h2, _⟩
    · rw [e2] at e
      simp [Value.ownBlock] at e
    · rw [e2] at e
      simp [Value.ownBlock] at e
      subst e
      rw [hg2] at h2
      injection h2 with h2
      injection h2 with _ h2
      exact absurd h2 (by decide)
  refine ⟨rfl, .slice A2 n2 c2, w2, hq, ⟨rfl, rfl, rfl, by simp [World.setCell], fun k _ hne => heap_setCell_other w2 ⟨g, 0, none⟩ k _ (fun e => hne (by rw [e]))⟩, one_setCell hg2, ?_⟩
  exact hown2.kept (row := some g) ⟨rfl, rfl, rfl, by simp [World.setCell], fun k _ hne => heap_setCell_other w2 ⟨g, 0, none⟩ k _ (fun e => hne (by rw [e]))⟩ (.inr hv2)
end Go.Proofs.YtlkameeaaplonaaDoor

/- The search for a number's place in a list of rising numbers, and the list with the number put there. -/
namespace Go.Proofs.YtlkameeaaplonaaDoor
open Go.RowKit Go.Proofs.YtlkameeaaplonaaDoor.QMeasureExpectedMatchesSpec
open Go.Proofs.YtlkameeaaplonaaDoorW.PrintWords
theorem wr_small {z : Int} (h0 : -9223372036854775808 ≤ z) (h1 : z ≤ 9223372036854775807) : wrap64 z = z := by unfold wrap64; omega
theorem wr_unsigned {z : Int} (h0 : 0 ≤ z) (h1 : z ≤ 9223372036854775807) : IntKind.u64.wrap z = z := by rw [IntKind.wrap_u64]; omega
theorem mid (a c : Nat) (h : a + c ≤ 9223372036854775807) : wrap64 ((IntKind.u64.wrap (wrap64 ((a : Int) + (c : Int)))) / 2) = (((a + c) / 2 : Nat) : Int) := by
  rw [wr_small (z := (a : Int) + (c : Int)) (by omega) (by omega), wr_unsigned (z := (a : Int) + (c : Int)) (by omega) (by omega), wr_small (z := ((a : Int) + (c : Int)) / 2) (by omega) (by omega)]
  omega
theorem suc (a : Nat) (h : a + 1 ≤ 9223372036854775807) : wrap64 ((a : Int) + 1) = ((a + 1 : Nat) : Int) := by
  rw [wr_small (by omega) (by omega)]
  omega
theorem less_f (a b : Int) : cmp_Less_int.f a b = some (decide (a < b)) := by
  simp [cmp_Less_int.f, cmp_isNaN_int.f]
theorem nan_f (a : Int) : slices_isNaN_int.f a = some false := by simp [slices_isNaN_int.f]

def Rising (xs : List Int) : Prop := xs.Pairwise (· < ·)
theorem rising_lt {xs : List Int} (h : Rising xs) {i j : Nat} (hij : i < j) (hj : j < xs.length) : xs.getD i 0 < xs.getD j 0 := by
  have := List.pairwise_iff_getElem.1 h i j (by omega) hj hij
  simpa [List.getD, List.getElem?_eq_getElem (show i < xs.length by omega), List.getElem?_eq_getElem hj] using this
theorem rd_eq (xs : List Int) (i : Nat) : rd xs (i : Int) = xs.getD i 0 := by simp [rd]
/-- The search: behind the smaller ones, ahead of the greater ones. -/
theorem search (xs : List Int) (x : Int) (hs : Rising xs) (hn : xs.length ≤ 4611686018427387904) (hx : ∀ i, i < xs.length → xs.getD i 0 ≠ x) :
    ∀ (k a c : Nat), c - a < k → a ≤ c → c ≤ xs.length → (∀ j, j < a → xs.getD j 0 < x) → (∀ j, c ≤ j → j < xs.length → x < xs.getD j 0) →
      ∃ i : Nat, slices_BinarySearch_int_int.l0 k xs x (xs.length : Int) (a : Int) (c : Int) = some ((i : Int), false) ∧ i ≤ xs.length ∧ (∀ j, j < i → xs.getD j 0 < x) ∧ (∀ j, i ≤ j → j < xs.length → x < xs.getD j 0)
  | 0, a, c, h, _, _, _, _ => by omega
  | k + 1, a, c, h, hac, hc, hlo, hhi => by
    rw [slices_BinarySearch_int_int.l0]
    by_cases hlt : a < c
    · rw [if_pos (by omega), mid a c (by omega)]
      obtain ⟨m, hm⟩ : ∃ m, m = (a + c) / 2 := ⟨_, rfl⟩
      rw [← hm]
      have hma : a ≤ m := by omega
      have hmc : m < c := by omega
      clear hm
      rw [if_pos (by omega), if_pos (by omega), rd_eq, less_f, Option.bind_some, suc m (by omega)]
      by_cases hl : xs.getD m 0 < x
      · rw [if_pos (by simpa using hl)]
        exact search xs x hs hn hx k (m + 1) c (by omega) (by omega) hc (fun j hj => by
          by_cases hjm : j = m
          · subst hjm; exact hl
          · have := rising_lt hs (show j < m by omega) (by omega); omega) hhi
      · rw [if_neg (by simpa using hl)]
        have hne := hx m (by omega)
        exact search xs x hs hn hx k a m (by omega) (by omega) (by omega) hlo (fun j hj hjl => by
          by_cases hjm : j = m
          · subst hjm; omega
          · have := rising_lt hs (show m < j by omega) hjl; omega)
    · have hea : a = c := by omega
      subst hea
      rw [if_neg (by omega)]
      by_cases hal : a < xs.length
      · rw [if_pos (by omega), if_pos (by omega), if_pos (by omega), rd_eq, if_neg (hx a hal), nan_f, Option.bind_some, if_neg (by simp)]
        exact ⟨a, rfl, hc, hlo, hhi⟩
      · rw [if_neg (by omega)]
        exact ⟨a, rfl, hc, hlo, hhi⟩
theorem search_f (xs : List Int) (x : Int) (hs : Rising xs) (hn : xs.length ≤ 4611686018427387904) (hx : x ∉ xs) :
    ∃ i : Nat, slices_BinarySearch_int_int.f (xs.length + 1) xs x = some ((i : Int), false) ∧ i ≤ xs.length ∧ (∀ j, j < i → xs.getD j 0 < x) ∧ (∀ j, i ≤ j → j < xs.length → x < xs.getD j 0) := by
  obtain ⟨i, h1, h2⟩ := search xs x hs hn (fun i hi e => hx (by rw [← e]; simp [List.getD, List.getElem?_eq_getElem hi])) (xs.length + 1) 0 xs.length (by omega) (by omega) (Nat.le_refl _) (fun j hj => by omega) (fun j h1 h2 => by omega)
  exact ⟨i, h1, h2⟩
theorem put_rising {xs : List Int} {x : Int} {i : Nat} (hs : Rising xs) (hi : i ≤ xs.length) (hlo : ∀ j, j < i → xs.getD j 0 < x) (hhi : ∀ j, i ≤ j → j < xs.length → x < xs.getD j 0) : Rising (put xs i x) := by
  unfold Rising put
  have ht : ∀ y ∈ xs.take i, y < x := by
    intro y hy
    obtain ⟨j, hj, rfl⟩ := List.getElem_of_mem hy
    have hj' : j < i := by rw [List.length_take] at hj; omega
    have := hlo j hj'
    rw [List.getElem_take]
    simpa [List.getD, List.getElem?_eq_getElem (show j < xs.length by omega)] using this
  have hd : ∀ y ∈ xs.drop i, x < y := by
    intro y hy
    obtain ⟨j, hj, rfl⟩ := List.getElem_of_mem hy
    rw [List.length_drop] at hj
    have := hhi (i + j) (by omega) (by omega)
    rw [List.getElem_drop]
    simpa [List.getD, List.getElem?_eq_getElem (show i + j < xs.length by omega)] using this
  refine List.pairwise_append.2 ⟨List.Pairwise.sublist (List.take_sublist _ _) hs, List.pairwise_cons.2 ⟨hd, List.Pairwise.sublist (List.drop_sublist _ _) hs⟩, ?_⟩
  intro a ha b hb
  rcases List.mem_cons.1 hb with rfl | hb
  · exact ht a ha
  · have := ht a ha
    have := hd b hb
    omega
theorem put_mem {xs : List Int} {x : Int} {i : Nat} (y : Int) : y ∈ put xs i x ↔ y = x ∨ y ∈ xs := by
  unfold put
  have e : y ∈ xs ↔ y ∈ xs.take i ∨ y ∈ xs.drop i := by rw [← List.mem_append, List.take_append_drop]
  rw [e]
  simp only [List.mem_append, List.mem_cons]
  grind
end Go.Proofs.YtlkameeaaplonaaDoor
