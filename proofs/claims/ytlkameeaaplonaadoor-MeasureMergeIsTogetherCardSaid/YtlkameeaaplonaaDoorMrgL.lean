/- The walk of the law MeasureMergeIsTogether where all values are good. -/
import Derived.Test.YtlkameeaaplonaaDoorMrgQ
import Derived.Test.YtlkameeaaplonaaDoorMeasCounts
import Derived.Deep.RegionHeld3
namespace Go.Proofs.YtlkameeaaplonaaDoor
open Go.Shelf Go.RowKit Go.Maps Go.Proofs.YtlkameeaaplonaaDoor.QMeasureMergeIsTogether
open Go.Proofs.YtlkameeaaplonaaDoorW.PrintWords Go.Proofs.YtlkameeaaplonaaDoorW.PrintLast Go.Proofs.YtlkameeaaplonaaDoorW.PrintMore
theorem C_reads {w : World} {A : Option Addr} {xs : List Int} (h : Kd.C (Kd.int .i64) w A xs.length xs) : ReadsInt w .i64 A xs.length xs := by
  refine ⟨rfl, h.2.1, fun h0 => ?_⟩
  obtain ⟨ad, rfl, _⟩ := h.2.2 h0
  refine ⟨ad, rfl, fun j hj => ?_⟩
  obtain ⟨ad2, e, hc⟩ := C_cell h j hj
  obtain rfl : ad = ad2 := by injection e
  exact hc
theorem info3 : (Tryd.prog.info? 3).map (fun i => (i.zero, i.size, i.bytes)) = some (some (.int .i64 0), 1, 8) := by kernel_rfl
abbrev hbox (b : Nat) (P : Option Addr) (n c : Nat) : Obj := .cells #[.int .i64 (b : Int), .slice P n c] 25 (0, 0)
theorem box_cells {W : World} {g b n c : Nat} {P : Option Addr} (h : W.heap[g]? = some (hbox b P n c)) : W.cell? ⟨g, 0, none⟩ = some (.int .i64 (b : Int)) ∧ W.cell? ⟨g, 1, none⟩ = some (.slice P n c) :=
  ⟨by simp only [World.cell?, h]; rfl, by simp only [World.cell?, h]; rfl⟩
theorem reads_C {w : World} {A : Option Addr} {n : Nat} {xs : List Int} (h : ReadsInt w .i64 A n xs) : Kd.C (Kd.int .i64) w A n xs := by
  refine ⟨h.1, h.2.1, fun h0 => ?_⟩
  obtain ⟨ad, rfl, hc⟩ := h.2.2 h0
  refine ⟨ad, rfl, fun j p hp => ⟨[.int .i64 p], rfl, rfl, fun i u hu => ?_⟩⟩
  match i, hu with
  | 0, hu =>
    simp at hu
    subst hu
    have hj := (List.getElem?_eq_some_iff.1 hp).1
    have := hc j (by rw [← h.1]; exact hj)
    rw [List.getD_eq_getElem?_getD, hp] at this
    simpa [Kd.int, Kd.scalar] using this
theorem Fine.app {xs ys : List Int} (h : Fine xs) (k : Fine ys) (hn : xs.length + ys.length ≤ 20000) : Fine (xs ++ ys) :=
  ⟨by rw [List.length_append]; exact hn, fun x hx => by rcases List.mem_append.1 hx with hx | hx; exact h.2 x hx; exact k.2 x hx⟩
theorem own_C {w : World} {base n : Nat} {A : Option Addr} {c : Nat} {xs : List Int} (h : w.ownsRow base 3 1 (.slice A n c) n (nums .i64 xs)) : Kd.C (Kd.int .i64) w A n xs := by
  obtain ⟨A', c', e, hr⟩ := own_reads h
  injection e with e1 e2 e3
  subst e1
  exact reads_C hr
/-- The box g holds the histogram of xs. -/
def HB (b g : Nat) (P : Option Addr) (d : Nat) (l : List S44) (xs : List Int) (W : World) : Prop := W.heap[g]? = some (hbox b P l.length d) ∧ l.length ≤ d ∧ Kd.C k44 W P l.length l ∧ IsTally (xs.map (bkt b)) l
theorem HB.below {b g d : Nat} {P : Option Addr} {l : List S44} {xs : List Int} {W W' : World} (h : HB b g P d l xs W) (hB : Below W.heap.size W W') : HB b g P d l xs W' :=
  ⟨(hB.block _ (Array.getElem?_eq_some_iff.1 h.1).1).trans h.1, h.2.1, Kd.C_below h.2.2.1 hB, h.2.2.2⟩
theorem HB.heap {b g d : Nat} {P : Option Addr} {l : List S44} {xs : List Int} {W : World} (h : HB b g P d l xs W) : W.heap[g]? = some (hbox b P l.length d) := h.1
theorem HB.step {b g d : Nat} {P : Option Addr} {l : List S44} {xs : List Int} {W W' : World} (h : HB b g P d l xs W) (hB : Below W.heap.size W W') (o : Obj) : HB b g P d l xs (W'.alloc o) :=
  (h.below hB).below ((Below.refl _ _).alloc (Nat.le_refl _) o)
theorem HB.new {b d base : Nat} {ok : Nat → Prop} {P : Option Addr} {l : List S44} {xs : List Int} {W : World} (hV : Kd.V k44 44 W base ok (.slice P l.length d) l) (hT : IsTally (xs.map (bkt b)) l) : HB b W.heap.size P d l xs (W.alloc (hbox b P l.length d)) :=
  ⟨heap_alloc_new W _, (Kd.V_reads' hV).2.1, Kd.C_below (Kd.V_reads' hV).2.2 ((Below.refl _ _).alloc (Nat.le_refl _) _), hT⟩
theorem mergeHB (b : Nat) (h2 : 2 ≤ b) (h8 : b ≤ 8) {g g2 d d2 : Nat} {P P2 : Option Addr} {l l2 : List S44} {xs ys : List Int} {W : World} (hx : Fine xs) (hy : Fine ys) (h : HB b g P d l xs W) (k : HB b g2 P2 d2 l2 ys W) :
    Calls Tryd.prog 17 #[.agg #[.int .i64 (b : Int), .slice P l.length d], .agg #[.int .i64 (b : Int), .slice P2 l2.length d2]] W fun e w' => ∃ v r, e = .returned (.tuple #[.agg #[.int .i64 (b : Int), v], .int .i64 0]) ∧
      Kd.V k44 44 w' W.heap.size (fun k => W.heap.size ≤ k) v r ∧ Below W.heap.size W w' ∧ IsTally ((xs ++ ys).map (bkt b)) r :=
  mergeFine b h2 h8 P P2 d d2 l l2 xs ys W hx hy h.2.2.1 h.2.1 k.2.2.1 k.2.1 h.2.2.2 k.2.2.2
theorem toldHB (b : Nat) (h2 : 2 ≤ b) (h8 : b ≤ 8) {g d : Nat} {P : Option Addr} {l : List S44} {xs : List Int} {w W : World} (hx : Fine xs) (h : HB b g P d l xs W) (hU : Below w.heap.size w W)
    (htab : Lib.TabBelow Tryd.prog w.heap.size w "internal/strconv.uint64pow10" .u64 Lib.pow10Tab) :
    Calls Tryd.prog 11 #[.agg #[.int .i64 (b : Int), .slice P l.length d], .int .i64 0] W fun e w' => e = .returned (.string (toldS (b : Int) l 0)) ∧ Below W.heap.size W w' := by
  obtain ⟨f1, f2, _⟩ := tally_facts b h2 h8 xs hx l h.2.2.2
  exact told11 (b : Int) 0 P d l W ⟨by omega, by omega⟩ ⟨by omega, by omega⟩ (by omega) f2 h.2.2.1 (fun w' hw' => htab w' (hU.trans (Below.mono hw' hU.size)))
theorem up {w u w' : World} (hU : Below w.heap.size w u) (hB : Below u.heap.size u w') (o : Obj) : Below w.heap.size w (w'.alloc o) :=
  (hU.trans (Below.mono hB hU.size)).alloc (hU.trans (Below.mono hB hU.size)).size o
set_option maxRecDepth 100000 in
set_option maxHeartbeats 8000000 in
theorem law4g (b : Nat) (h2 : 2 ≤ b) (h8 : b ≤ 8) (A1 A2 A3 : Option Addr) (c1 c2 c3 : Nat) (xs ys zs : List Int) (w : World) (hx : Fine xs) (hy : Fine ys) (hz : Fine zs) (hn : xs.length + ys.length + zs.length ≤ 20000)
    (hC1 : Kd.C (Kd.int .i64) w A1 xs.length xs) (hC2 : Kd.C (Kd.int .i64) w A2 ys.length ys) (hC3 : Kd.C (Kd.int .i64) w A3 zs.length zs)
    (htab : Lib.TabBelow Tryd.prog w.heap.size w "internal/strconv.uint64pow10" .u64 Lib.pow10Tab) :
    Calls Tryd.prog 4 #[.int .i64 (b : Int), .slice A1 xs.length c1, .slice A2 ys.length c2, .slice A3 zs.length c3] w fun e w' => e = .returned (.bool true) ∧ Below w.heap.size w w' := by
  have hd : decide (20000 < (xs.length : Int) + (ys.length : Int) + (zs.length : Int)) = false := decide_eq_false (by omega)
  go_enter Tryd.func4, Tryd.ntmps4
  go_wp2_with (first
    | ((with_reducible refine gate_builtin (b := .append) (xs := #[.tmp 69, .tmp 70]) rfl ?_); at_builtin; go_loud (refine print_append_row (w0 := w4.alloc (hbox b P4 l4.length d4)) (w4.alloc (hbox b P4 l4.length d4)).heap.size rfl (.tmp 69) (.tmp 70) 22 3 .i64 8 rfl Tryd.underlying22 info3 (by decide) (.slice A5 xs.length c5) xs ys A2 ys.length c2 rfl rfl hown5 (C_reads (Kd.C_below hC2 (hU4.trans (Below.mono hB5 hU4.size)))) hB5 hB5.size (by omega) ?_); intro v6 w6 hown6 hB6 hg6 hat6; obtain ⟨A6, c6, rfl⟩ := row_slice hown6; have hf6 := ofFine b h2 h8 A6 c6 (xs ++ ys) w6 (hx.app hy (by omega)) (own_C hown6); rw [List.length_append] at hf6)
    | ((with_reducible refine gate_builtin (b := .append) (xs := #[.const (.slice none 0 0), .tmp 68]) rfl ?_); at_builtin; go_loud (refine print_append_row (w0 := w4.alloc (hbox b P4 l4.length d4)) (w4.alloc (hbox b P4 l4.length d4)).heap.size rfl (.const (.slice none 0 0)) (.tmp 68) 22 3 .i64 8 rfl Tryd.underlying22 info3 (by decide) (.slice none 0 0) [] xs A1 xs.length c1 rfl rfl ⟨rfl, .inl ⟨rfl, rfl⟩⟩ (C_reads (Kd.C_below hC1 hU4)) (Below.refl _ _) (Nat.le_refl _) (by simp; omega) ?_); intro v5 w5 hown5 hB5 hg5 hat5; rw [List.nil_append] at hown5; obtain ⟨A5, c5, rfl⟩ := row_slice hown5)
    | (go_at_call 12; with_reducible refine hf6.mono ?_; rintro e w7 ⟨v7, l7, rfl, hV7, hB7, hT7⟩; obtain ⟨P7, d7, rfl⟩ := Kd.V_slice hV7; have hB47 := hB6.trans (Below.mono hB7 hB6.size); have hU7 := up hU4 hB47 (hbox b P7 l7.length d7); have X7 := X4.step hB47 (hbox b P7 l7.length d7); have Y7 := Y4.step hB47 (hbox b P7 l7.length d7); have Z7 := Z4.step hB47 (hbox b P7 l7.length d7); have Q7 := Q4.step hB47 (hbox b P7 l7.length d7); have S7 : HB b _ P7 d7 l7 (xs ++ ys) _ := HB.new hV7 hT7)
    | (go_at_call 17; with_reducible refine (mergeHB b h2 h8 hx hy X3 Y3).mono ?_; rintro e w4 ⟨v4, l4, rfl, hV4, hB4, hT4⟩; obtain ⟨P4, d4, rfl⟩ := Kd.V_slice hV4; have hU4 := up hU3 hB4 (hbox b P4 l4.length d4); have X4 := X3.step hB4 (hbox b P4 l4.length d4); have Y4 := Y3.step hB4 (hbox b P4 l4.length d4); have Z4 := Z3.step hB4 (hbox b P4 l4.length d4); have Q4 : HB b _ P4 d4 l4 (xs ++ ys) _ := HB.new hV4 hT4)
    | (go_at_call 12; with_reducible refine (ofFine b h2 h8 A3 c3 zs _ hz (Kd.C_below hC3 hU2)).mono ?_; rintro e w3 ⟨v3, l3, rfl, hV3, hB3, hT3⟩; obtain ⟨P3, d3, rfl⟩ := Kd.V_slice hV3; have hU3 := up hU2 hB3 (hbox b P3 l3.length d3); have X3 := X2.step hB3 (hbox b P3 l3.length d3); have Y3 := Y2.step hB3 (hbox b P3 l3.length d3); have Z3 : HB b _ P3 d3 l3 zs _ := HB.new hV3 hT3; obtain ⟨x30, x31⟩ := box_cells (HB.heap X3); obtain ⟨y30, y31⟩ := box_cells (HB.heap Y3))
    | (go_at_call 12; with_reducible refine (ofFine b h2 h8 A2 c2 ys _ hy (Kd.C_below hC2 hU1)).mono ?_; rintro e w2 ⟨v2, l2, rfl, hV2, hB2, hT2⟩; obtain ⟨P2, d2, rfl⟩ := Kd.V_slice hV2; have hU2 := up hU1 hB2 (hbox b P2 l2.length d2); have X2 := X1.step hB2 (hbox b P2 l2.length d2); have Y2 : HB b _ P2 d2 l2 ys _ := HB.new hV2 hT2)
    | (go_at_call 12; with_reducible refine (ofFine b h2 h8 A1 c1 xs w hx hC1).mono ?_; rintro e w1 ⟨v1, l1, rfl, hV1, hB1, hT1⟩; obtain ⟨P1, d1, rfl⟩ := Kd.V_slice hV1; have hU1 := hB1.alloc hB1.size (hbox b P1 l1.length d1); have X1 : HB b _ P1 d1 l1 xs _ := HB.new hV1 hT1)
    | go_in)
  obtain rfl := tally_unique hT7 hT4
  have hxy := hx.app hy (by omega)
  obtain ⟨U7, hE⟩ : ∃ U, w7.alloc (.cells #[.int .i64 (b : Int), .slice P7 l7.length d7] 25) = U := ⟨_, rfl⟩
  rw [hE]
  replace hU7 : Below w.heap.size w U7 := by rw [← hE]; exact hU7
  replace X7 : HB b w1.heap.size P1 d1 l1 xs U7 := by rw [← hE]; exact X7
  replace Y7 : HB b w2.heap.size P2 d2 l2 ys U7 := by rw [← hE]; exact Y7
  replace Z7 : HB b w3.heap.size P3 d3 l3 zs U7 := by rw [← hE]; exact Z7
  replace Q7 : HB b w4.heap.size P4 d4 l7 (xs ++ ys) U7 := by rw [← hE]; exact Q7
  replace S7 : HB b w7.heap.size P7 d7 l7 (xs ++ ys) U7 := by rw [← hE]; exact S7
  clear hE hB1 hB2 hB3 hB4 hB5 hB6 hB7 hB47 hU1 hU2 hU3 hU4 X1 X2 X3 X4 Y2 Y3 Y4 Z3 Z4 Q4 x30 x31 y30 y31 hown5 hown6 hg5 hg6 hat5 hat6 hV1 hV2 hV3 hV4 hV7
  have hfr : ∀ W : World, Below U7.heap.size U7 W → (W.cell? ⟨w4.heap.size, 0, none⟩ = some (.int .i64 (b : Int)) ∧ W.cell? ⟨w4.heap.size, 1, none⟩ = some (.slice P4 l7.length d4)) ∧ (W.cell? ⟨w7.heap.size, 0, none⟩ = some (.int .i64 (b : Int)) ∧ W.cell? ⟨w7.heap.size, 1, none⟩ = some (.slice P7 l7.length d7)) ∧ Below U7.heap.size U7 W := fun W h =>
    ⟨box_cells (HB.heap (Q7.below h)), box_cells (HB.heap (S7.below h)), h⟩
  have hBd := (Below.refl U7.heap.size U7).drew
  have hS0 := hfr U7.drew hBd
  have htA := toldHB b h2 h8 hxy (Q7.below hBd) (hU7.trans (Below.mono hBd hU7.size)) htab
  have hSB : ∀ v1, Below U7.drew.heap.size U7.drew v1 → Below U7.heap.size U7 v1 := fun v1 h => hBd.trans (show Below U7.heap.size U7.drew v1 from h)
  have htB := fun v1 (h : Below U7.drew.heap.size U7.drew v1) => toldHB b h2 h8 hxy (S7.below (hSB v1 h)) (hU7.trans (Below.mono (hSB v1 h) hU7.size)) htab
  go_region_held3 (fun W => (W.cell? ⟨w4.heap.size, 0, none⟩ = some (.int .i64 (b : Int)) ∧ W.cell? ⟨w4.heap.size, 1, none⟩ = some (.slice P4 l7.length d4)) ∧ (W.cell? ⟨w7.heap.size, 0, none⟩ = some (.int .i64 (b : Int)) ∧ W.cell? ⟨w7.heap.size, 1, none⟩ = some (.slice P7 l7.length d7)) ∧ Below U7.heap.size U7 W) (first | assumption | exact hS0)
    (first | (go_at_call 11; refine (htB v1 hBt1).mono ?_; rintro e v2 ⟨rfl, hBt2⟩; have hS2 := hfr v2 (hS1.2.2.trans (Below.mono hBt2 hS1.2.2.size)))
           | (go_at_call 11; refine htA.mono ?_; rintro e v1 ⟨rfl, hBt1⟩; have hS1 := hfr v1 (hSB v1 hBt1)))
  obtain ⟨-, -, hB8⟩ := hS2
  have hU8 := hU7.trans (Below.mono hB8 hU7.size)
  have X8 := X7.below hB8
  have Y8 := Y7.below hB8
  have Z8 := Z7.below hB8
  have Q8 := Q7.below hB8
  obtain ⟨q80, q81⟩ := box_cells (HB.heap Q8)
  obtain ⟨z80, z81⟩ := box_cells (HB.heap Z8)
  have hyz := hy.app hz (by omega)
  clear htA htB hSB hS0 hS1 hBt1 hBt2 hfr hBd hU7 X7 Y7 Z7 Q7 S7 hB8 hf6
  go_wp2_with (first
    | (go_at_call 17; with_reducible refine (mergeHB b h2 h8 hx hyz X10 S10).mono ?_; rintro e w11 ⟨v11, l11, rfl, hV11, hB11, hT11⟩; obtain ⟨P11, d11, rfl⟩ := Kd.V_slice hV11; have hU11 := up hU10 hB11 (hbox b P11 l11.length d11); have R11 := R10.step hB11 (hbox b P11 l11.length d11); have T11 : HB b _ P11 d11 l11 (xs ++ (ys ++ zs)) _ := HB.new hV11 hT11)
    | (go_at_call 17; with_reducible refine (mergeHB b h2 h8 hy hz Y9 Z9).mono ?_; rintro e w10 ⟨v10, l10, rfl, hV10, hB10, hT10⟩; obtain ⟨P10, d10, rfl⟩ := Kd.V_slice hV10; have hU10 := up hU9 hB10 (hbox b P10 l10.length d10); have X10 := X9.step hB10 (hbox b P10 l10.length d10); have R10 := R9.step hB10 (hbox b P10 l10.length d10); have S10 : HB b _ P10 d10 l10 (ys ++ zs) _ := HB.new hV10 hT10; obtain ⟨x100, x101⟩ := box_cells (HB.heap X10); obtain ⟨s100, s101⟩ := box_cells (HB.heap S10))
    | (go_at_call 17; with_reducible refine (mergeHB b h2 h8 hxy hz Q8 Z8).mono ?_; rintro e w9 ⟨v9, l9, rfl, hV9, hB9, hT9⟩; obtain ⟨P9, d9, rfl⟩ := Kd.V_slice hV9; have hU9 := up hU8 hB9 (hbox b P9 l9.length d9); have X9 := X8.step hB9 (hbox b P9 l9.length d9); have Y9 := Y8.step hB9 (hbox b P9 l9.length d9); have Z9 := Z8.step hB9 (hbox b P9 l9.length d9); have R9 : HB b _ P9 d9 l9 (xs ++ ys ++ zs) _ := HB.new hV9 hT9; obtain ⟨y90, y91⟩ := box_cells (HB.heap Y9); obtain ⟨z90, z91⟩ := box_cells (HB.heap Z9))
    | go_in)
  rw [← List.append_assoc] at hT11
  obtain rfl := tally_unique hT11 hT9
  have hall := hxy.app hz (by rw [List.length_append]; omega)
  obtain ⟨U11, hE⟩ : ∃ U, w11.alloc (.cells #[.int .i64 (b : Int), .slice P11 l11.length d11] 25) = U := ⟨_, rfl⟩
  rw [hE]
  rw [← List.append_assoc] at T11
  replace hU11 : Below w.heap.size w U11 := by rw [← hE]; exact hU11
  replace R11 : HB b w9.heap.size P9 d9 l11 (xs ++ ys ++ zs) U11 := by rw [← hE]; exact R11
  replace T11 : HB b w11.heap.size P11 d11 l11 (xs ++ ys ++ zs) U11 := by rw [← hE]; exact T11
  clear hE hB9 hB10 hB11 hU8 hU9 hU10 X8 Y8 Z8 Q8 X9 Y9 Z9 R9 X10 R10 S10 q80 q81 z80 z81 y90 y91 z90 z91 x100 x101 s100 s101 hV9 hV10 hV11
  have hfr : ∀ W : World, Below U11.heap.size U11 W → (W.cell? ⟨w9.heap.size, 0, none⟩ = some (.int .i64 (b : Int)) ∧ W.cell? ⟨w9.heap.size, 1, none⟩ = some (.slice P9 l11.length d9)) ∧ (W.cell? ⟨w11.heap.size, 0, none⟩ = some (.int .i64 (b : Int)) ∧ W.cell? ⟨w11.heap.size, 1, none⟩ = some (.slice P11 l11.length d11)) ∧ Below U11.heap.size U11 W := fun W h =>
    ⟨box_cells (HB.heap (R11.below h)), box_cells (HB.heap (T11.below h)), h⟩
  have hBd := (Below.refl U11.heap.size U11).drew
  have hS0 := hfr U11.drew hBd
  have htA := toldHB b h2 h8 hall (R11.below hBd) (hU11.trans (Below.mono hBd hU11.size)) htab
  have hSB : ∀ v1, Below U11.drew.heap.size U11.drew v1 → Below U11.heap.size U11 v1 := fun v1 h => hBd.trans (show Below U11.heap.size U11.drew v1 from h)
  have htB := fun v1 (h : Below U11.drew.heap.size U11.drew v1) => toldHB b h2 h8 hall (T11.below (hSB v1 h)) (hU11.trans (Below.mono (hSB v1 h) hU11.size)) htab
  go_region_held3 (fun W => (W.cell? ⟨w9.heap.size, 0, none⟩ = some (.int .i64 (b : Int)) ∧ W.cell? ⟨w9.heap.size, 1, none⟩ = some (.slice P9 l11.length d9)) ∧ (W.cell? ⟨w11.heap.size, 0, none⟩ = some (.int .i64 (b : Int)) ∧ W.cell? ⟨w11.heap.size, 1, none⟩ = some (.slice P11 l11.length d11)) ∧ Below U11.heap.size U11 W) (first | assumption | exact hS0)
    (first | (go_at_call 16; refine (counts10 _).mono ?_; rintro e v3 ⟨rfl, hBt3⟩; have hS3 := hfr v3 (hS2.2.2.trans (Below.mono hBt3 hS2.2.2.size)))
           | (go_at_call 11; refine (htB v1 hBt1).mono ?_; rintro e v2 ⟨rfl, hBt2⟩; have hS2 := hfr v2 (hS1.2.2.trans (Below.mono hBt2 hS1.2.2.size)))
           | (go_at_call 11; refine htA.mono ?_; rintro e v1 ⟨rfl, hBt1⟩; have hS1 := hfr v1 (hSB v1 hBt1)))
  go_wp2
  go_ret
  exact ⟨rfl, hU11.trans (Below.mono hS3.2.2 hU11.size)⟩
end Go.Proofs.YtlkameeaaplonaaDoor
