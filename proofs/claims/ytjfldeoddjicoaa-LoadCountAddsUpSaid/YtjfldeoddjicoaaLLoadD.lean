/- Package load: before, Count, first and arrival answer as the whole numbers say. Condition: the line passes Check, and the time is at most the greatest one. -/
import Derived.Test.YtjfldeoddjicoaaLLoadC
namespace Go.Proofs.Ytjfldeoddjicoaa.QLoadCountAddsUp
open Go.RowKit Go.Proofs.YtjfldeoddjicoaaW.PrintWords Go.Proofs.YtjfldeoddjicoaaW.PrintLast Go.Proofs.YtjfldeoddjicoaaW.PrintMore
set_option linter.unusedVariables false
set_option linter.unusedSimpArgs false
def Bef (ls : List St) (t n : Nat) : Prop := (t = 0 ∧ n = 0) ∨ ∃ t' i x, t = t' + 1 ∧ IsPos ls t' i x ∧ n = cnt ls i (min x (gs ls i).1)
theorem cnt_le (ls : List St) (hg : Good ls) (i x : Nat) (hi : i < ls.length) (hx : x ≤ (gs ls i).1) : cnt ls i x ≤ 10000000000000 := by
  have hF : 0 < (gs ls i).1 := (hg.ok i hi).1
  have hD : 0 < 2 * dn ls i := by unfold dn; omega
  unfold cnt
  refine Nat.le_of_lt_succ ((Nat.div_lt_iff_lt_mul hD).2 ?_)
  have h1 := nm_le ls i x hi hx
  have h2 := ah_bound ls hg (i + 1) hi
  have h3 : (gs ls i).1 * ah ls (i + 1) ≤ (gs ls i).1 * 10000000000000000000000 := Nat.mul_le_mul_left _ h2
  have h4 : nm ls i x ≤ (gs ls i).1 * 10000000000000000000000 := Nat.le_trans h1 h3
  clear h1 h2 h3
  unfold dn at *
  generalize nm ls i x = A at *
  generalize (gs ls i).1 = F at *
  omega
theorem before_ev (ls : List St) (hg : Good ls) (t : Nat) (ht : t ≤ 1000000000001) : ∃ n : Nat, Bef ls t n ∧ n ≤ 10000000000000 ∧ Ev (fun k => load_line_before.f k (lineOf ls) (t : Int)) (n : Int) := by
  by_cases h0 : t = 0
  · subst h0
    refine ⟨0, .inl ⟨rfl, rfl⟩, by omega, Ev.congr (f := fun _ => some 0) (fun k => ?_) (Ev.now _)⟩
    simp only [load_line_before.f]
    rw [if_pos (by omega)]
  · obtain ⟨t', rfl⟩ : ∃ t', t = t' + 1 := ⟨t - 1, by omega⟩
    obtain ⟨i, x, hp, hat⟩ := at_ev ls hg t' (by omega)
    have hi := hp.lt
    have hle := cnt_le ls hg i (min x (gs ls i).1) hi (Nat.min_le_right _ _)
    obtain ⟨hb1, hb2, hb3⟩ := area_bound ls hg i (min x (gs ls i).1) hi (Nat.min_le_right _ _)
    have hF : 0 < (gs ls i).1 := (hg.ok i hi).1
    refine ⟨cnt ls i (min x (gs ls i).1), .inr ⟨t', i, x, rfl, hp, rfl⟩, hle, ?_⟩
    have hd1 : dn ls i ≤ 200000000000000000000 := by unfold dn; omega
    have hd0 : dn ls i ≠ 0 := by unfold dn; omega
    have hcn : cnt ls i (min x (gs ls i).1) = (nm ls i (min x (gs ls i).1) * 2 ^ 1 + dn ls i) / (dn ls i * 2 ^ 1) := by
      unfold cnt
      rw [Nat.pow_one, Nat.mul_comm 2, Nat.mul_comm 2]
    generalize nm ls i (min x (gs ls i).1) = A at *
    generalize dn ls i = D at *
    generalize cnt ls i (min x (gs ls i).1) = C at *
    have s1 := Shl_ev A 1 (by decide) (sm_small (by omega))
    have s2 := Shl_ev D 1 (by decide) (sm_small (by omega))
    have s3 := Add_ev (A * 2 ^ 1) D (sm_small (by omega)) (sm_small (by omega))
    have hl := enc_len_le 2 (A * 2 ^ 1 + D) (by omega)
    have hdm := DivMod_ev (A * 2 ^ 1 + D) (D * 2 ^ 1) (by omega) (by omega) (sm_small (by omega))
    rw [← hcn] at hdm
    have hint := Int_eq C
    rw [if_pos (by omega)] at hint
    have hw : wrap64 (((t' + 1 : Nat) : Int) - 1) = (t' : Int) := by rw [w64 (by omega) (by omega)]; omega
    have c1 : ¬ ((t' + 1 : Nat) : Int) = 0 := by omega
    simp only [load_line_before.f, if_neg c1, hw]
    refine Ev.bind hat ?_
    refine Ev.bind s1 ?_
    refine Ev.bind s3 ?_
    refine Ev.bind s2 ?_
    refine Ev.bind hdm ?_
    refine Ev.congr (f := fun _ => some (C : Int)) (fun k => ?_) (Ev.now _)
    simp only [hint, Option.bind_some]
theorem Count_ok (ls : List St) (hg : Good ls) (hck : Ev (fun k => load_Check.f k (ls.map toS)) 0) {a b : Int} {na nb : Nat} (ha : 0 ≤ a) (hab : a ≤ b) (hb : b ≤ 1000000000001)
    (h1 : Ev (fun k => load_line_before.f k (lineOf ls) a) (na : Int)) (h2 : Ev (fun k => load_line_before.f k (lineOf ls) b) (nb : Int)) :
    Ev (fun k => load_Count.f k (ls.map toS) a b) (wrap64 ((nb : Int) - (na : Int)), 0) := by
  have hn := newLine_ev ls hg
  have hj : Ev (fun k => load_Count.j0 k (ls.map toS) a b false) (wrap64 ((nb : Int) - (na : Int)), 0) := by
    refine Ev.step (f := fun k => (load_newLine.f k (ls.map toS)).bind fun t => (load_line_before.f k t b).bind fun u => (load_line_before.f k t a).bind fun v => some (wrap64 (u - v), 0)) (fun k => ?_) (Ev.bind hn (Ev.bind h2 (Ev.bind h1 (Ev.now _))))
    simp only [load_Count.j0]
    rw [if_neg (by decide)]
  have c0 : ¬ b > 1000000000001 := by omega
  simp only [load_Count.f]
  refine Ev.bind hck ?_
  refine Ev.congr (fun k => ?_) hj
  rw [if_pos rfl, if_neg (by omega), if_neg (by omega), decide_eq_false c0]
theorem Count_range (ls : List St) (hck : Ev (fun k => load_Check.f k (ls.map toS)) 0) {a b : Int} (h : ¬ (0 ≤ a ∧ a ≤ b ∧ b ≤ 1000000000001)) :
    Ev (fun k => load_Count.f k (ls.map toS) a b) (0, 9) := by
  have hj : Ev (fun k => load_Count.j0 k (ls.map toS) a b true) (0, 9) := by
    refine Ev.step (f := fun _ => some _) (fun k => ?_) (Ev.now _)
    simp only [load_Count.j0]
    rw [if_pos trivial]
  simp only [load_Count.f]
  refine Ev.bind hck ?_
  refine Ev.congr (fun k => ?_) hj
  rw [if_pos rfl]
  by_cases h1 : a < 0
  · rw [if_pos h1]
  · by_cases h2 : a > b
    · rw [if_neg h1, if_pos h2]
    · rw [if_neg h1, if_neg h2, decide_eq_true (by omega)]
theorem Count_bad (l : List S77) {e : Int} (he : e ≠ 0) (hck : Ev (fun k => load_Check.f k l) e) (a b : Int) : Ev (fun k => load_Count.f k l a b) (0, e) := by
  simp only [load_Count.f]
  refine Ev.bind hck ?_
  refine Ev.congr (fun k => ?_) (Ev.now _)
  rw [if_neg he]
theorem tdiv2 (a b : Nat) (h : a + b < 9000000000000) : wrap64 (Int.tdiv (wrap64 ((a : Int) + (b : Int))) 2) = (((a + b) / 2 : Nat) : Int) := by
  have e : (a : Int) + (b : Int) = ((a + b : Nat) : Int) := by omega
  have h1 : wrap64 ((a + b : Nat) : Int) = ((a + b : Nat) : Int) := w64 (by omega) (by omega)
  have h2 : Int.tdiv ((a + b : Nat) : Int) 2 = (((a + b) / 2 : Nat) : Int) := by rw [Int.tdiv_eq_ediv_of_nonneg (by omega)]; omega
  rw [e, h1, h2]
  clear h1 h2
  exact w64 (by omega) (by omega)
theorem mul2 (n : Nat) (h : n < 18446744073709551616 ^ 7) : Ev (fun k => nat_Mul.f k (enc n) (enc 2)) (enc (n * 2)) := by
  have h1 := enc_len_le 7 n h
  have h2 := enc_len_le 1 2 (by decide)
  exact Mul_ev n 2 (by omega)
theorem mulc (m c : Nat) (hm : m < 18446744073709551616) (hc : c < 18446744073709551616) : Ev (fun k => nat_Mul.f k (enc m) (enc c)) (enc (m * c)) := by
  have h1 := enc_len_le 1 m (by omega)
  have h2 := enc_len_le 1 c (by omega)
  exact Mul_ev m c (by omega)
theorem first_l1 (ls : List St) (hg : Good ls) (n i : Nat) (hi : i < ls.length) (hn : n ≤ 1000000000000000) : ∀ (d low high : Nat), high - low ≤ d → low ≤ high → high ≤ (gs ls i).1 → (∀ y, y < low → ¬ rch ls n i y) → rch ls n i high →
    ∃ x : Nat, x ≤ (gs ls i).1 ∧ (∀ y, y < x → ¬ rch ls n i y) ∧ rch ls n i x ∧ Ev (fun k => load_line_first.l1 k (lineOf ls) (i : Int) (low : Int) (high : Int) (enc (2 * n + 1)) (enc 2)) (((bg ls i + x : Nat) : Int), true) := by
  have hF := (hg.ok i hi).2.1
  have hF0 := (hg.ok i hi).1
  have hbg := bg_mono ls (show i ≤ ls.length by omega) (Nat.le_refl _)
  have htime := hg.time
  have hD : dn ls i ≤ 200000000000000000000 := by unfold dn; omega
  have e96 : rd_T96 (lineOf ls) 0 = ⟨ls.map toS, bgs ls ls.length, ahs ls ls.length⟩ := rfl
  have c0 : (0 : Int) < ((lineOf ls).length : Int) := by simp [lineOf]
  have c1 : (0 : Int) ≤ (i : Int) := by omega
  have c2 : (i : Int) < ((bgs ls ls.length).length : Int) := by rw [bgs_len]; omega
  intro d
  induction d with
  | zero =>
    intro low high hd hlh hh hlo hhi
    have he : low = high := by omega
    subst he
    refine ⟨low, hh, hlo, hhi, Ev.step (f := fun _ => some _) (fun k => ?_) (Ev.now _)⟩
    simp only [load_line_first.l1]
    rw [if_neg (by omega), if_pos c0, if_pos c1, e96, if_pos c2, rd_bgs ls ls.length i hi]
    have e : ((bg ls i : Nat) : Int) + (low : Int) = ((bg ls i + low : Nat) : Int) := by omega
    rw [e, w64 (by omega) (by omega)]
  | succ d ih =>
    intro low high hd hlh hh hlo hhi
    by_cases he : low = high
    · subst he
      refine ⟨low, hh, hlo, hhi, Ev.step (f := fun _ => some _) (fun k => ?_) (Ev.now _)⟩
      simp only [load_line_first.l1]
      rw [if_neg (by omega), if_pos c0, if_pos c1, e96, if_pos c2, rd_bgs ls ls.length i hi]
      have e : ((bg ls i : Nat) : Int) + (low : Int) = ((bg ls i + low : Nat) : Int) := by omega
      rw [e, w64 (by omega) (by omega)]
    · have c4 : (low : Int) < (high : Int) := by omega
      have hmid : low ≤ (low + high) / 2 ∧ (low + high) / 2 < high := by omega
      have hsum : low + high < 9000000000000 := by omega
      obtain ⟨m, hm⟩ : ∃ m, m = (low + high) / 2 := ⟨_, rfl⟩
      have hmF : m ≤ (gs ls i).1 := by omega
      obtain ⟨hb1, hb2, hb3⟩ := area_bound ls hg i m hi hmF
      have ha := area_ev ls hg i m hi hmF
      have hm1 := mul2 (nm ls i m) (by omega)
      have hl1 := enc_len_le 1 (2 * n + 1) (by omega)
      have hl2 := enc_len_le 2 (dn ls i) (by omega)
      have hm2 := Mul_ev (2 * n + 1) (dn ls i) (by omega)
      have hpb : (2 * n + 1) * dn ls i ≤ 1000000000000000000000000000000000000000 := mul_bound (A := 2000000000000001) (by omega) hD rfl
      have hcmp := Cmp_ev (nm ls i m * 2) ((2 * n + 1) * dn ls i) (sm_small (by omega)) (sm_small (by omega))
      have ht := tdiv2 low high hsum
      rw [← hm] at ht
      have HT := Aside0.mk ht
      clear ht
      have hbody : ∀ r, Ev (fun k => if (if nm ls i m * 2 < (2 * n + 1) * dn ls i then (-1 : Int) else if nm ls i m * 2 = (2 * n + 1) * dn ls i then 0 else 1) ≥ 0 then load_line_first.l1 k (lineOf ls) (i : Int) (low : Int) (m : Int) (enc (2 * n + 1)) (enc 2) else load_line_first.l1 k (lineOf ls) (i : Int) (wrap64 ((m : Int) + 1)) (high : Int) (enc (2 * n + 1)) (enc 2)) r →
          Ev (fun k => load_line_first.l1 k (lineOf ls) (i : Int) (low : Int) (high : Int) (enc (2 * n + 1)) (enc 2)) r := by
        intro r hr
        refine Ev.step (f := fun k => (load_line_area.f k (lineOf ls) (i : Int) (m : Int)).bind fun t => (nat_Mul.f k t.1 (enc 2)).bind fun u => (nat_Mul.f k (enc (2 * n + 1)) t.2).bind fun v => (nat_Cmp.f k u v).bind fun c => if c ≥ 0 then load_line_first.l1 k (lineOf ls) (i : Int) (low : Int) (m : Int) (enc (2 * n + 1)) (enc 2) else load_line_first.l1 k (lineOf ls) (i : Int) (wrap64 ((m : Int) + 1)) (high : Int) (enc (2 * n + 1)) (enc 2)) (fun k => ?_) (Ev.bind ha (Ev.bind hm1 (Ev.bind hm2 (Ev.bind hcmp hr))))
        simp only [load_line_first.l1]
        rw [if_pos c4, HT.out]
      by_cases hr : rch ls n i m
      · have hr' : ¬ nm ls i m * 2 < (2 * n + 1) * dn ls i := by unfold rch at hr; omega
        obtain ⟨x, h1, h2, h3, h4⟩ := ih low m (by omega) (by omega) (by omega) hlo hr
        refine ⟨x, h1, h2, h3, hbody _ (Ev.congr (fun k => ?_) h4)⟩
        rw [if_neg hr']
        rw [if_pos (by split <;> decide)]
      · have hr' : nm ls i m * 2 < (2 * n + 1) * dn ls i := by unfold rch at hr; omega
        have hlo2 : ∀ y, y < m + 1 → ¬ rch ls n i y := by
          intro y hy hc
          exact hr (rch_mono (by omega) hmF hc)
        obtain ⟨x, h1, h2, h3, h4⟩ := ih (m + 1) high (by omega) (by omega) hh hlo2 hhi
        have e : (m : Int) + 1 = ((m + 1 : Nat) : Int) := by omega
        refine ⟨x, h1, h2, h3, hbody _ (Ev.congr (fun k => ?_) h4)⟩
        rw [if_pos hr', if_neg (by decide), e, w64 (by omega) (by omega)]
theorem first_l0 (ls : List St) (hg : Good ls) (n : Nat) (hn : n ≤ 1000000000000000) (hall : rca ls n ls.length) : ∀ (d i : Nat), i + d = ls.length → ¬ rca ls n i →
    ∃ j x : Nat, IsArr ls n j x ∧ Ev (fun k => load_line_first.l0 k (lineOf ls) (enc ((2 * n + 1) * 2000000000)) (i : Int) (enc (2 * n + 1)) (enc 2)) (((bg ls j + x : Nat) : Int), true) := by
  have e96 : rd_T96 (lineOf ls) 0 = ⟨ls.map toS, bgs ls ls.length, ahs ls ls.length⟩ := rfl
  have c0 : (0 : Int) < ((lineOf ls).length : Int) := by simp [lineOf]
  have hlen := hg.len
  intro d
  induction d with
  | zero =>
    intro i hi hno
    have hi' : i = ls.length := by omega
    subst hi'
    exact absurd hall hno
  | succ d ih =>
    intro i hi hno
    have c3 : i < ls.length := by omega
    have c1 : (i : Int) < ((ls.map toS).length : Int) := by rw [List.length_map]; omega
    have c2 : (0 : Int) ≤ ((i + 1 : Nat) : Int) := by omega
    have c4 : ((i + 1 : Nat) : Int) < ((ahs ls ls.length).length : Int) := by rw [ahs_len]; omega
    have c5 : (0 : Int) ≤ (i : Int) := by omega
    have c6 : ¬ (i : Int) = ((ls.map toS).length : Int) := by rw [List.length_map]; omega
    have hb := ah_bound ls hg (i + 1) (by omega)
    have hF0 := (hg.ok i c3).1
    have hm1 := mul2 (ah ls (i + 1)) (by omega)
    have hcmp := Cmp_ev (ah ls (i + 1) * 2) ((2 * n + 1) * 2000000000) (sm_small (by omega)) (sm_small (by omega))
    have hw := w64s i (by omega)
    have HW := Aside0.mk hw
    clear hw
    have step : ∀ r, Ev (fun k => if (if ah ls (i + 1) * 2 < (2 * n + 1) * 2000000000 then (-1 : Int) else if ah ls (i + 1) * 2 = (2 * n + 1) * 2000000000 then 0 else 1) < 0 then load_line_first.l0 k (lineOf ls) (enc ((2 * n + 1) * 2000000000)) ((i + 1 : Nat) : Int) (enc (2 * n + 1)) (enc 2) else load_line_first.j1 k (lineOf ls) (i : Int) (enc (2 * n + 1)) (enc 2)) r →
        Ev (fun k => load_line_first.l0 k (lineOf ls) (enc ((2 * n + 1) * 2000000000)) (i : Int) (enc (2 * n + 1)) (enc 2)) r := by
      intro r hr
      refine Ev.step (f := fun k => (nat_Mul.f k (enc (ah ls (i + 1))) (enc 2)).bind fun u => (nat_Cmp.f k u (enc ((2 * n + 1) * 2000000000))).bind fun c => if c < 0 then load_line_first.l0 k (lineOf ls) (enc ((2 * n + 1) * 2000000000)) ((i + 1 : Nat) : Int) (enc (2 * n + 1)) (enc 2) else load_line_first.j1 k (lineOf ls) (i : Int) (enc (2 * n + 1)) (enc 2)) (fun k => ?_) (Ev.bind hm1 (Ev.bind hcmp hr))
      simp only [load_line_first.l0]
      rw [if_pos c0, e96, if_pos c1, HW.out, if_pos c2, if_pos c4, rd_ahs ls ls.length (i + 1) (by omega)]
    by_cases hr : rca ls n (i + 1)
    · have hr' : ¬ ah ls (i + 1) * 2 < (2 * n + 1) * 2000000000 := by unfold rca at hr; omega
      obtain ⟨x, h1, h2, h3, h4⟩ := first_l1 ls hg n i c3 hn (gs ls i).1 0 (gs ls i).1 (by omega) (by omega) (Nat.le_refl _) (fun y hy => absurd hy (by omega)) ((rch_full c3 hF0).2 hr)
      refine ⟨i, x, ⟨c3, h1, hno, hr, h2, h3⟩, step _ ?_⟩
      refine Ev.congr (f := fun k => load_line_first.j1 k (lineOf ls) (i : Int) (enc (2 * n + 1)) (enc 2)) (fun k => ?_) (Ev.step (fun k => ?_) h4)
      · rw [if_neg hr']
        rw [if_neg (by split <;> decide)]
      · simp only [load_line_first.j1]
        rw [if_pos c0, e96, if_neg c6, if_pos c5, if_pos c1, rd_toS ls i c3]
        rfl
    · have hr' : ah ls (i + 1) * 2 < (2 * n + 1) * 2000000000 := by unfold rca at hr; omega
      obtain ⟨j, x, h1, h2⟩ := ih (i + 1) (by omega) hr
      refine ⟨j, x, h1, step _ (Ev.congr (fun k => ?_) h2)⟩
      rw [if_pos hr', if_pos (by decide)]
theorem first_of (L : List S96) (p q c t : List Int) (r : Int × Bool) (o : nat_Of.f 2000000000 = some c) (hm : Ev (fun k => nat_Mul.f k p c) t) (h : Ev (fun k => load_line_first.l0 k L t 0 p q) r) : Ev (fun k => load_line_first.f k L p q) r := by
  have ho : Ev (fun _ : Nat => nat_Of.f 2000000000) c := by rw [o]; exact Ev.now _
  unfold load_line_first.f
  exact Ev.bind ho (Ev.bind hm h)
theorem arrival_of (L : List S96) (n : Int) (e1 e2 t u : List Int) (x : Int) (b : Bool) (o1 : nat_Of.f 1 = some e1) (o2 : nat_Of.f 2 = some e2) (hp : Ev (fun k => load_product.f k [2, n]) t) (ha : Ev (fun k => nat_Add.f k t e1) u) (hf : Ev (fun k => load_line_first.f k L u e2) (x, b)) :
    Ev (fun k => load_line_arrival.f k L n) (x, b) := by
  have h1 : Ev (fun _ : Nat => nat_Of.f 1) e1 := by rw [o1]; exact Ev.now _
  have h2 : Ev (fun _ : Nat => nat_Of.f 2) e2 := by rw [o2]; exact Ev.now _
  unfold load_line_arrival.f
  exact Ev.bind hp (Ev.bind h1 (Ev.bind ha (Ev.bind h2 (Ev.bind hf (Ev.now _)))))
theorem of1 : nat_Of.f 1 = some (enc 1) := Of_eq (n := 1) (by decide)
theorem of2 : nat_Of.f 2 = some (enc 2) := Of_eq (n := 2) (by decide)
theorem ofc : nat_Of.f 2000000000 = some (enc 2000000000) := Of_eq (n := 2000000000) (by decide)
theorem first_all (ls : List St) (hg : Good ls) (n : Nat) (hn : n ≤ 1000000000000000) (hall : rca ls n ls.length) :
    ∃ j x : Nat, IsArr ls n j x ∧ Ev (fun k => load_line_first.f k (lineOf ls) (enc (2 * n + 1)) (enc 2)) (((bg ls j + x : Nat) : Int), true) := by
  have h0 : ¬ rca ls n 0 := by unfold rca; rw [ah_zero]; omega
  obtain ⟨j, x, h1, h2⟩ := first_l0 ls hg n hn hall ls.length 0 (by omega) h0
  refine ⟨j, x, h1, ?_⟩
  have hm := mulc (2 * n + 1) 2000000000 (by omega) (by decide)
  exact first_of _ _ _ _ _ _ ofc hm h2
theorem arrival_ev (ls : List St) (hg : Good ls) (n : Nat) (hn : n ≤ 1000000000000000) (hall : rca ls n ls.length) :
    ∃ j x : Nat, IsArr ls n j x ∧ Ev (fun k => load_line_arrival.f k (lineOf ls) (n : Int)) (((bg ls j + x : Nat) : Int), true) := by
  obtain ⟨j, x, h1, h2⟩ := first_all ls hg n hn hall
  refine ⟨j, x, h1, ?_⟩
  have hp : Ev (fun k => load_product.f k [2, (n : Int)]) (enc (2 * n)) := product2 2 n (by decide) (by omega)
  have hadd := Add_ev (2 * n) 1 (sm_small (by omega)) (sm_small (by decide))
  exact arrival_of _ _ _ _ _ _ _ _ of1 of2 hp hadd h2
end Go.Proofs.Ytjfldeoddjicoaa.QLoadCountAddsUp
