/- told: what the ink writes of a histogram and an error. Conditions: the counts lie below, are whole numbers of the kind and not too many; the table of powers of ten lies below. -/
import Derived.Test.YtlkameeaaplonaaDoorInkA
import Derived.Test.YtlkameeaaplonaaDoorQMeasureMergeIsTogetherx0
import Derived.Laws.IdiomStrings
namespace Go.Proofs.YtlkameeaaplonaaDoor
open Go.Shelf Go.RowKit Go.Proofs.YtlkameeaaplonaaDoor.QMeasureMergeIsTogether
open Go.Proofs.YtlkameeaaplonaaDoorW.PrintWords
/-- The bytes of a number. -/
def inkB (i : Int) : List UInt8 := Lib.itoa i ++ [32]
abbrev Ink (B g : Nat) (bs : List UInt8) (w : World) : Prop := Inked B g (Lib.byteCells bs) w
abbrev in64 (i : Int) : Prop := -9223372036854775808 ≤ i ∧ i ≤ 9223372036854775807
theorem inkB_len (i : Int) (h : in64 i) : (inkB i).length ≤ 22 := by
  have := Lib.itoa_length_le i h.1 h.2
  simp [inkB]
  omega
theorem ink_cells (bs : List UInt8) (i : Int) : Lib.byteCells bs ++ inkInt i = Lib.byteCells (bs ++ inkB i) := by
  simp [Lib.byteCells, inkInt, inkB]
theorem cells_len (bs : List UInt8) : (Lib.byteCells bs).length = bs.length := by simp [Lib.byteCells]
theorem ink_num (B g : Nat) (bs : List UInt8) (i : Int) (w : World) (h : in64 i) (hI : Ink B g bs w) (hBg : B ≤ g) (hlim : bs.length ≤ 1000000000)
    (htab : Lib.TabBelow Tryd.prog B w "internal/strconv.uint64pow10" .u64 Lib.pow10Tab) :
    Calls Tryd.prog 49 #[.pointer (some ⟨g, 0, none⟩), .int .i64 i] w fun e w' => e = .returned (.tuple #[]) ∧ Ink B g (bs ++ inkB i) w' ∧ Below B w w' ∧ Lib.OthersKept 5 (some g) w w' :=
  (ink_int B g _ i w h.1 h.2 hI hBg (by rw [cells_len]; omega) htab).mono fun e w' ⟨h1, h2, h3, h4⟩ => ⟨h1, by unfold Ink; rw [← ink_cells]; exact h2, h3, h4⟩
theorem ink_errno (B g : Nat) (bs : List UInt8) (i : Int) (w : World) (h : in64 i) (hI : Ink B g bs w) (hBg : B ≤ g) (hlim : bs.length ≤ 1000000000)
    (htab : Lib.TabBelow Tryd.prog B w "internal/strconv.uint64pow10" .u64 Lib.pow10Tab) :
    Calls Tryd.prog 30 #[.pointer (some ⟨g, 0, none⟩), .int .i64 i] w fun e w' => e = .returned (.tuple #[]) ∧ Ink B g (bs ++ inkB i) w' ∧ Below B w w' ∧ Lib.OthersKept 5 (some g) w w' := by
  have hn := ink_num B g bs i w h hI hBg hlim htab
  go_enter Tryd.func30, Tryd.ntmps30
  go_wp2_with (first
    | (go_at_call 49; refine hn.mono ?_; rintro e w1 ⟨rfl, h1, h2, h3⟩)
    | go_in)
  go_end0
  exact ⟨rfl, h1, h2, h3⟩
/-- The bytes of counts. -/
def inkCounts : List S44 → List UInt8
  | [] => []
  | s :: r => inkB s.f0 ++ inkB s.f1 ++ inkCounts r
theorem inkCounts_snoc (s : S44) : ∀ l : List S44, inkCounts (l ++ [s]) = inkCounts l ++ inkB s.f0 ++ inkB s.f1
  | [] => by simp [inkCounts]
  | x :: r => by simp only [List.cons_append, inkCounts, inkCounts_snoc s r, List.append_assoc]
theorem inkCounts_len : ∀ l : List S44, (∀ s ∈ l, in64 s.f0 ∧ in64 s.f1) → (inkCounts l).length ≤ 44 * l.length
  | [], _ => by simp [inkCounts]
  | x :: r, h => by
    have h1 := inkCounts_len r (fun s hs => h s (by simp [hs]))
    have h2 := h x (by simp)
    have h3 := inkB_len x.f0 h2.1
    have h4 := inkB_len x.f1 h2.2
    simp only [inkCounts, List.length_append, List.length_cons]
    omega
set_option maxRecDepth 100000 in
set_option maxHeartbeats 4000000 in
theorem ink_hist (B g : Nat) (bs : List UInt8) (bits : Int) (A : Option Addr) (c : Nat) (l : List S44) (w : World) (hbits : in64 bits) (hl : l.length ≤ 1000000) (hb : ∀ s ∈ l, in64 s.f0 ∧ in64 s.f1)
    (hI : Ink B g bs w) (hBg : B ≤ g) (hlim : bs.length ≤ 1000) (hC : ∀ W, Below B w W → Kd.C k44 W A l.length l)
    (htab : Lib.TabBelow Tryd.prog B w "internal/strconv.uint64pow10" .u64 Lib.pow10Tab) :
    Calls Tryd.prog 29 #[.pointer (some ⟨g, 0, none⟩), .agg #[.int .i64 bits, .slice A l.length c]] w fun e w' => e = .returned (.tuple #[]) ∧ Ink B g (bs ++ (inkB bits ++ inkB (l.length : Int) ++ inkCounts l)) w' ∧ Below B w w' ∧ Lib.OthersKept 5 (some g) w w' := by
  have hgl : g < w.heap.size := by obtain ⟨v, hv, _⟩ := hI; exact (Array.getElem?_eq_some_iff.1 hv).1
  have hB0 : Below B w (w.alloc (.cells #[.int .i64 bits, .slice A l.length c] 25)) := (Below.refl B w).alloc (by omega) _
  have hO0 : Lib.OthersKept 5 (some g) w (w.alloc (.cells #[.int .i64 bits, .slice A l.length c] 25)) := (Lib.OthersKept.refl 5 (some g) w).alloc _
  have hI0 : Ink B g bs (w.alloc (.cells #[.int .i64 bits, .slice A l.length c] 25)) := by
    obtain ⟨v, hv, ho⟩ := hI
    exact ⟨v, (Below.heap_alloc _ _ _ hgl).trans hv, ho.alloc _⟩
  have hbx := heap_alloc_new w (.cells #[.int .i64 bits, .slice A l.length c] 25)
  have hkb : ∀ W, Lib.OthersKept 5 (some g) (w.alloc (.cells #[.int .i64 bits, .slice A l.length c] 25)) W → W.heap[w.heap.size]? = some (.cells #[.int .i64 bits, .slice A l.length c] 25 (0, 0)) := fun W h =>
    h _ _ hbx (fun e => by have := Option.some.inj e; omega) (fun c fz hh => by injection hh with _ hh2; exact absurd hh2 (by decide))
  have hc1 : ∀ W, Lib.OthersKept 5 (some g) (w.alloc (.cells #[.int .i64 bits, .slice A l.length c] 25)) W → W.cell? ⟨w.heap.size, 1, none⟩ = some (.slice A l.length c) := fun W h => by simp only [World.cell?, hkb W h]; rfl
  have h22 := inkB_len bits hbits
  have h23 := inkB_len (l.length : Int) ⟨by omega, by omega⟩
  have hn1 := ink_num B g bs bits _ hbits hI0 hBg (by omega) (htab.on hB0)
  go_enter Tryd.func29, Tryd.ntmps29
  go_wp2_with (first
    | (go_at_call 49; with_reducible refine hn1.mono ?_; clear hn1; rintro e w1 ⟨rfl, hI1, hB1, hO1⟩; have k1 := hc1 _ hO1; have hn2 := ink_num B g _ (l.length : Int) w1 ⟨by omega, by omega⟩ hI1 hBg (by simp only [List.length_append]; omega) (htab.on (hB0.trans hB1)))
    | (go_at_call 49; with_reducible refine hn2.mono ?_; clear hn2; rintro e w2 ⟨rfl, hI2, hB2, hO2⟩)
    | go_in)
  have hB12 := hB0.trans (hB1.trans hB2)
  have hO12 := hO1.trans hO2
  clear hI1 hB1 hO1 k1 hB2 hO2 hI0
  obtain ⟨pf, hpf⟩ : ∃ pf, bs ++ inkB bits ++ inkB (l.length : Int) = pf := ⟨_, rfl⟩
  have hpl : pf.length ≤ 1044 := by rw [← hpf]; simp only [List.length_append]; omega
  rw [hpf] at hI2
  have HPF := Aside0.mk hpf
  clear hpf
  go_loopw [4] (fun s4 wr => ∃ k : Nat, k ≤ l.length ∧ s4 = .int .i64 k ∧ Ink B g (pf ++ inkCounts (l.take k)) wr ∧ Below B w wr ∧ Lib.OthersKept 5 (some g) (w.alloc (.cells #[.int .i64 bits, .slice A l.length c] 25)) wr) (fun s _ => l.length - (intOf s).toNat)
  case atStart => exact ⟨0, Nat.zero_le _, rfl, by simpa [inkCounts] using hI2, hB12, hO12⟩
  case round =>
    obtain ⟨k, hk, rfl, hIr, hBr, hOr⟩ := hrel
    have kc := hc1 _ hOr
    by_cases hlt : k < l.length
    · have hd : decide ((k : Int) < (l.length : Int)) = true := decide_eq_true (by omega)
      have hCr := hC _ hBr
      obtain ⟨ad, rfl, q0, q1⟩ := at_T44 hCr (k : Int) (by omega) (by omega)
      rw [Int.toNat_natCast] at q0 q1
      have hin : rd_T44 l (k : Int) ∈ l := by simp [rd_T44, List.getD, List.getElem?_eq_getElem hlt]
      have htk : l.take (k + 1) = l.take k ++ [rd_T44 l (k : Int)] := by
        rw [List.take_succ_eq_append_getElem hlt]
        simp [rd_T44, List.getD, List.getElem?_eq_getElem hlt]
      have hlen := inkCounts_len (l.take k) (fun s hs => hb s (List.mem_of_mem_take hs))
      rw [List.length_take] at hlen
      have hsb := hb _ hin
      have hcs : inkCounts (l.take (k + 1)) = inkCounts (l.take k) ++ inkB (rd_T44 l (k : Int)).f0 ++ inkB (rd_T44 l (k : Int)).f1 := by rw [htk, inkCounts_snoc]
      have q1' : ∀ W, Below B w W → W.cell? ⟨(ad.add (k * 2)).block, (ad.add (k * 2)).off + 1, none⟩ = some (.int .i64 (rd_T44 l (k : Int)).f1) := fun W h => by
        obtain ⟨ad2, e2, _, p1⟩ := at_T44 (hC _ h) (k : Int) (by omega) (by omega)
        obtain rfl : ad = ad2 := by injection e2
        rw [Int.toNat_natCast] at p1
        exact p1
      clear htk hin
      have HCS := Aside0.mk hcs
      clear hcs
      generalize hs : rd_T44 l (k : Int) = s at q0 q1 q1' hsb
      have HS := Aside0.mk hs
      clear hs
      obtain ⟨pk, hpk⟩ : ∃ pk, pf ++ inkCounts (l.take k) = pk := ⟨_, rfl⟩
      have hpkl : pk.length ≤ 44001044 := by rw [← hpk]; simp only [List.length_append]; omega
      rw [hpk] at hIr
      have HPK := Aside0.mk hpk
      clear hpk hlen
      have h24 := inkB_len s.f0 hsb.1
      have hm1 := ink_num B g pk s.f0 wr hsb.1 hIr hBg (by omega) (htab.on hBr)
      go_wp2_with (first
        | (go_at_call 49; with_reducible refine hm1.mono ?_; clear hm1; rintro e w3 ⟨rfl, hI3, hB3, hO3⟩; have hB3' := hBr.trans hB3; have hO3' := hOr.trans hO3; have kc3 := hc1 _ hO3'; have q3 := q1' _ hB3'; have hm2 := ink_num B g _ s.f1 w3 hsb.2 hI3 hBg (by simp only [List.length_append]; omega) (htab.on hB3'))
        | (go_at_call 49; with_reducible refine hm2.mono ?_; clear hm2; rintro e w4 ⟨rfl, hI4, hB4, hO4⟩)
        | go_in)
      refine ⟨⟨k + 1, by omega, by simp, ?_, hB3'.trans hB4, hO3'.trans hO4⟩, by simp [intOf]; omega⟩
      rw [HCS.out, HS.out, ← List.append_assoc, ← List.append_assoc, HPK.out]
      exact hI4
    · have hke : k = l.length := by omega
      subst hke
      go_wp2
      go_end0
      refine ⟨rfl, ?_, hBr, hO0.trans hOr⟩
      rw [List.take_length, ← HPF.out] at hIr
      rw [← List.append_assoc, ← List.append_assoc]
      exact hIr
set_option maxHeartbeats 4000000 in
/-- What has been written. -/
theorem ink_told (B g : Nat) (bs : List UInt8) (w : World) (hI : Ink B g bs w) (hne : bs.length ≠ 0) :
    Calls Tryd.prog 31 #[.pointer (some ⟨g, 0, none⟩)] w fun e w' => e = .returned (.string ⟨bs.toArray⟩) ∧ w' = w := by
  obtain ⟨v, hb, hown⟩ := hI
  rcases hown.2 with ⟨_, h0⟩ | ⟨gg, cap, cur, rfl, _⟩
  · exact absurd h0 (by rw [cells_len]; exact hne)
  have hcell := hown.cells (g := gg) rfl
  have hc : w.cell? ⟨g, 0, none⟩ = some (.slice (some ⟨gg, 0, none⟩) bs.length cap) := by simp [World.cell?, hb, cells_len]
  have hcv := run_convert_bytes_back (P := Tryd.prog) w 48 9 5 ⟨gg, 0, none⟩ cap bs Tryd.underlying48 Tryd.underlying5 Tryd.underlying9 (fun j hj => by
    have := hcell j (.int .u8 (bs[j].toNat : Int)) (by simp [Lib.byteCells, List.getElem?_eq_getElem hj])
    simpa using this)
  clear hb hown hcell
  go_enter Tryd.func31, Tryd.ntmps31
  go_wp2
  go_ret
  exact ⟨rfl, rfl⟩
/-- What told tells of a histogram and an error. -/
def toldS (bits : Int) (l : List S44) (e : Int) : ByteArray := ⟨(inkB bits ++ inkB (l.length : Int) ++ inkCounts l ++ inkB e).toArray⟩
set_option maxRecDepth 100000 in
set_option maxHeartbeats 4000000 in
theorem told11 (bits er : Int) (A : Option Addr) (c : Nat) (l : List S44) (w : World) (hbits : in64 bits) (her : in64 er) (hl : l.length ≤ 1000000) (hb : ∀ s ∈ l, in64 s.f0 ∧ in64 s.f1) (hC : Kd.C k44 w A l.length l)
    (htab : Lib.TabBelow Tryd.prog w.heap.size w "internal/strconv.uint64pow10" .u64 Lib.pow10Tab) :
    Calls Tryd.prog 11 #[.agg #[.int .i64 bits, .slice A l.length c], .int .i64 er] w fun e w' => e = .returned (.string (toldS bits l er)) ∧ Below w.heap.size w w' := by
  have hB0 : Below w.heap.size w ((w.alloc (.cells #[.int .i64 bits, .slice A l.length c] 25)).alloc (.cells #[.slice none 0 0] 50)) := ((Below.refl _ w).alloc (Nat.le_refl _) _).alloc (by simp) _
  have hI0 : Ink w.heap.size (w.heap.size + 1) [] ((w.alloc (.cells #[.int .i64 bits, .slice A l.length c] 25)).alloc (.cells #[.slice none 0 0] 50)) := by
    refine ⟨.slice none 0 0, ?_, rfl, .inl ⟨rfl, rfl⟩⟩
    have := heap_alloc_new (w.alloc (.cells #[.int .i64 bits, .slice A l.length c] 25)) (.cells #[.slice none 0 0] 50)
    rwa [World.size_alloc] at this
  have hh := ink_hist w.heap.size (w.heap.size + 1) [] bits A c l _ hbits hl hb hI0 (by omega) (by simp) (fun W h => Kd.C_below hC (hB0.trans h)) (htab.on hB0)
  rw [List.nil_append] at hh
  have h22 := inkB_len bits hbits
  have h23 := inkB_len (l.length : Int) ⟨by omega, by omega⟩
  have h24 := inkB_len er her
  have hcl := inkCounts_len l hb
  obtain ⟨p1, hp1⟩ : ∃ p1, inkB bits ++ inkB (l.length : Int) ++ inkCounts l = p1 := ⟨_, rfl⟩
  have hp1l : p1.length ≤ 44000044 := by rw [← hp1]; simp only [List.length_append]; omega
  rw [hp1] at hh
  have hT : toldS bits l er = ⟨(p1 ++ inkB er).toArray⟩ := by rw [toldS, hp1]
  have hpos : (p1 ++ inkB er).length ≠ 0 := by simp [inkB]
  have HT := Aside0.mk hT
  clear hp1 hT
  go_enter Tryd.func11, Tryd.ntmps11
  go_wp2_with (first
    | (go_at_call 29; with_reducible refine hh.mono ?_; clear hh; rintro e w1 ⟨rfl, hI1, hB1, hO1⟩; have hB1' := hB0.trans hB1; have he1 := ink_errno w.heap.size (w.heap.size + 1) p1 er w1 her hI1 (by omega) (by omega) (htab.on hB1'))
    | (go_at_call 30; with_reducible refine he1.mono ?_; clear he1; rintro e w2 ⟨rfl, hI2, hB2, hO2⟩; have ht2 := ink_told _ _ _ w2 hI2 hpos)
    | (go_at_call 31; with_reducible refine ht2.mono ?_; clear ht2; rintro e w3 ⟨rfl, rfl⟩)
    | go_in)
  go_ret
  refine ⟨?_, hB1'.trans hB2⟩
  rw [HT.out]
  rfl
end Go.Proofs.YtlkameeaaplonaaDoor
