/- The law of counted arrivals: LoadCountAddsUp answers true, whatever the line and the times. -/
import Derived.Test.YtjfldeoddjicoaaLLoadD
import Derived.KernelRfl
namespace Go.Proofs.Ytjfldeoddjicoaa.QLoadCountAddsUp
open Go.RowKit Go.Proofs.YtjfldeoddjicoaaW.PrintWords Go.Proofs.YtjfldeoddjicoaaW.PrintLast Go.Proofs.YtjfldeoddjicoaaW.PrintMore
set_option linter.unusedVariables false
set_option linter.unusedSimpArgs false
theorem even_at : dynamometerlaw7_even.f 400 = some true := by kernel_rfl
theorem even_ev : Ev (fun k => dynamometerlaw7_even.f k) true := Ev.of (fun k => dynamometerlaw7_even.mono k) even_at
theorem Bef_upto {ls : List St} (hg : Good ls) {t n k : Nat} (h : Bef ls t n) (hk : k < n) : rca ls k ls.length := by
  rcases h with ⟨_, h⟩ | ⟨t', i, x, h1, h2, h3⟩
  · omega
  · have hF := (hg.ok i h2.lt).1
    rw [h3, cnt_iff hF] at hk
    have h4 := rch_mono (Nat.min_le_right _ _) (Nat.le_refl _) hk
    rw [rch_full h2.lt hF] at h4
    exact rca_mono h2.lt (Nat.le_refl _) h4
theorem Bef_end {ls : List St} (hg : Good ls) {n k : Nat} (h : Bef ls 1000000000001 n) (hk : rca ls k ls.length) : k < n := by
  rcases h with ⟨h, _⟩ | ⟨t', i, x, h1, h2, h3⟩
  · omega
  · have hF := (hg.ok i h2.lt).1
    have hs := bg_succ ls i h2.lt
    have he := h2.eq
    have ht := hg.time
    have hend : i + 1 = ls.length := by
      by_cases hc : i + 1 < ls.length
      · have h4 := h2.inn hc
        have h5 := bg_mono ls (show i + 1 + 1 ≤ ls.length by omega) (Nat.le_refl _)
        have h6 := bg_succ ls (i + 1) hc
        have h7 := (hg.ok (i + 1) hc).1
        omega
      · have := h2.lt
        omega
    rw [hend] at hs
    have hx : min x (gs ls i).1 = (gs ls i).1 := by omega
    rw [h3, cnt_iff hF, hx, rch_full h2.lt hF, hend]
    exact hk
theorem Bef_arr {ls : List St} (hg : Good ls) {t n k j y : Nat} (h : Bef ls t n) (ha : IsArr ls k j y) : bg ls j + y < t ↔ k < n := by
  rcases h with ⟨h1, h2⟩ | ⟨t', i, x, h1, h2, h3⟩
  · omega
  · have hF := (hg.ok i h2.lt).1
    rw [h3, cnt_iff hF, ← arr_iff (fun i hi => (hg.ok i hi).1) ha h2]
    omega
def IsTime (ls : List St) (k : Nat) (v : Int) : Prop := ∃ j x : Nat, IsArr ls k j x ∧ v = ((bg ls j + x : Nat) : Int)
theorem Even_l0 (ls : List St) (hg : Good ls) (n : Nat) (hn : n ≤ 20000) (hr : ∀ k, k < n → rca ls k ls.length) : ∀ (d i : Nat) (out : List Int), i + d = n → out.length = i → (∀ k : Nat, k < i → IsTime ls k (rd out (k : Int))) →
    ∃ out' : List Int, Ev (fun k => load_Even.l0 k (lineOf ls) out (n : Int) (i : Int)) (out', 0) ∧ out'.length = n ∧ ∀ k : Nat, k < n → IsTime ls k (rd out' (k : Int)) := by
  intro d
  induction d with
  | zero =>
    intro i out hi hl hp
    have hi' : i = n := by omega
    subst hi'
    refine ⟨out, Ev.step (f := fun _ => some _) (fun k => ?_) (Ev.now _), hl, hp⟩
    simp only [load_Even.l0]
    rw [if_neg (by omega)]
  | succ d ih =>
    intro i out hi hl hp
    have c1 : (i : Int) < (n : Int) := by omega
    have c2 : out.length < 17592186044416 := by omega
    obtain ⟨j, x, h1, h2⟩ := arrival_ev ls hg i (by omega) (hr i (by omega))
    obtain ⟨out', h3, h4, h5⟩ := ih (i + 1) (out ++ [((bg ls j + x : Nat) : Int)]) (by omega) (by rw [List.length_append, hl]; rfl) (by
      intro k hk
      by_cases hki : k < i
      · have := hp k hki
        rw [rd_nat _ k (by omega)] at this
        rw [rd_nat _ k (by rw [List.length_append]; omega), List.getElem_append_left (by omega)]
        exact this
      · have hki' : k = i := by omega
        subst hki'
        rw [rd_nat _ k (by rw [List.length_append, hl]; simp), List.getElem_append_right (by omega)]
        refine ⟨j, x, h1, ?_⟩
        simp [hl])
    refine ⟨out', ?_, h4, h5⟩
    have hw := w64s i (by omega)
    refine Ev.step (f := fun k => (load_line_arrival.f k (lineOf ls) (i : Int)).bind fun t => if out.length < 17592186044416 then load_Even.l0 k (lineOf ls) (out ++ [t.1]) (n : Int) (wrap64 ((i : Int) + 1)) else none) (fun k => ?_) (Ev.bind h2 (Ev.congr (fun k => ?_) h3))
    · simp only [load_Even.l0]
      rw [if_pos c1]
    · rw [if_pos c2, hw]
theorem Even_ev (ls : List St) (hg : Good ls) (hck : Ev (fun k => load_Check.f k (ls.map toS)) 0) :
    Ev (fun k => load_Even.f k (ls.map toS)) ([], 3) ∨ ∃ (n : Nat) (out : List Int), Bef ls 1000000000001 n ∧ n ≤ 20000 ∧ Ev (fun k => load_Even.f k (ls.map toS)) (out, 0) ∧ out.length = n ∧ ∀ k : Nat, k < n → IsTime ls k (rd out (k : Int)) := by
  obtain ⟨n, h1, h2, h3⟩ := before_ev ls hg 1000000000001 (by omega)
  have h3' : Ev (fun k => load_line_before.f k (lineOf ls) 1000000000001) (n : Int) := h3
  have hnl := newLine_ev ls hg
  by_cases hn : n ≤ 20000
  · obtain ⟨out, h4, h5, h6⟩ := Even_l0 ls hg n hn (fun k hk => Bef_upto hg h1 hk) n 0 [] (by omega) rfl (fun k hk => absurd hk (by omega))
    refine .inr ⟨n, out, h1, hn, ?_, h5, h6⟩
    have c1 : ¬ (n : Int) > 20000 := by omega
    have c2 : (0 : Int) ≤ (n : Int) := by omega
    have c3 : n ≤ 35184372088832 := by omega
    unfold load_Even.f
    refine Ev.bind hck ?_
    refine Ev.congr (f := fun k => (load_newLine.f k (ls.map toS)).bind fun t => (load_line_before.f k t 1000000000001).bind fun u => if u > 20000 then some ([], 3) else if 0 ≤ u then (if u.toNat ≤ 35184372088832 then load_Even.l0 k t [] u 0 else none) else none) (fun k => ?_) (Ev.bind hnl (Ev.bind h3' (Ev.congr (fun k => ?_) h4)))
    · rw [if_pos rfl]
    · rw [if_neg c1, if_pos c2, Int.toNat_natCast, if_pos c3]
      rfl
  · refine .inl ?_
    have c1 : (n : Int) > 20000 := by omega
    unfold load_Even.f
    refine Ev.bind hck ?_
    refine Ev.congr (f := fun k => (load_newLine.f k (ls.map toS)).bind fun t => (load_line_before.f k t 1000000000001).bind fun u => if u > 20000 then some ([], 3) else if 0 ≤ u then (if u.toNat ≤ 35184372088832 then load_Even.l0 k t [] u 0 else none) else none) (fun k => ?_) (Ev.bind hnl (Ev.bind h3' (Ev.congr (fun k => ?_) (Ev.now _))))
    · rw [if_pos rfl]
    · rw [if_pos c1]
theorem law_l0 (a c : Int) (all : List Int) (na nc : Nat) (h1 : na ≤ nc) (h2 : nc ≤ all.length) (hl : all.length ≤ 20000) (ha : ∀ k : Nat, k < all.length → (a ≤ rd all (k : Int) ↔ na ≤ k)) (hc : ∀ k : Nat, k < all.length → (rd all (k : Int) < c ↔ k < nc)) :
    ∀ (d i : Nat), i + d = all.length → Ev (fun k => dynamometerlaw7_LoadCountAddsUp.l0 k a c ((nc - na : Nat) : Int) all ((min i nc - min i na : Nat) : Int) (i : Int)) true := by
  intro d
  induction d with
  | zero =>
    intro i hi
    have e : min i nc - min i na = nc - na := by omega
    have c1 : ¬ (i : Int) < (all.length : Int) := by omega
    rw [e]
    refine Ev.step (f := fun k => (dynamometerlaw7_even.f k).bind fun t => some t) (fun k => ?_) (Ev.bind even_ev (Ev.now _))
    simp only [dynamometerlaw7_LoadCountAddsUp.l0]
    rw [if_neg c1, if_pos trivial]
  | succ d ih =>
    intro i hi
    have hA := ha i (by omega)
    have hC := hc i (by omega)
    have c1 : (i : Int) < (all.length : Int) := by omega
    have c2 : (0 : Int) ≤ (i : Int) := by omega
    have h3 := ih (i + 1) (by omega)
    have c3 : i < 9000000 := by omega
    by_cases g1 : a ≤ rd all (i : Int)
    · by_cases g2 : rd all (i : Int) < c
      · have k1 := hA.1 g1
        have k2 := hC.1 g2
        have e : min (i + 1) nc - min (i + 1) na = min i nc - min i na + 1 := by omega
        have c4 : min i nc - min i na < 9000000 := by omega
        rw [e] at h3
        have hw := w64s _ c4
        have hw2 := w64s i c3
        refine Ev.step (fun k => ?_) h3
        simp only [dynamometerlaw7_LoadCountAddsUp.l0]
        rw [if_pos c1, if_pos c2, if_pos g1, if_pos g2, hw, hw2]
      · have k2 : ¬ i < nc := fun h => g2 (hC.2 h)
        have e : min (i + 1) nc - min (i + 1) na = min i nc - min i na := by omega
        rw [e] at h3
        have hw2 := w64s i c3
        refine Ev.step (fun k => ?_) h3
        simp only [dynamometerlaw7_LoadCountAddsUp.l0]
        rw [if_pos c1, if_pos c2, if_pos g1, if_neg g2, hw2]
    · have k1 : ¬ na ≤ i := fun h => g1 (hA.2 h)
      have e : min (i + 1) nc - min (i + 1) na = min i nc - min i na := by omega
      rw [e] at h3
      have hw2 := w64s i c3
      refine Ev.step (fun k => ?_) h3
      simp only [dynamometerlaw7_LoadCountAddsUp.l0]
      rw [if_pos c1, if_pos c2, if_neg g1, hw2]
theorem law_j0_even (l : List S77) (a c x y z g : Int) : Ev (fun k => dynamometerlaw7_LoadCountAddsUp.j0 k l a c x y z g true) true := by
  refine Ev.step (f := fun k => (dynamometerlaw7_even.f k).bind fun t => some t) (fun k => ?_) (Ev.bind even_ev (Ev.now _))
  simp only [dynamometerlaw7_LoadCountAddsUp.j0]
  rw [if_pos trivial]
theorem Count_any (l : List S77) (a b : Int) : ∃ r : Int × Int, Ev (fun k => load_Count.f k l a b) r := by
  rcases Check_ev l with ⟨ls, h1, h2, h3⟩ | ⟨e, h1, h2⟩
  · subst h1
    by_cases h : 0 ≤ a ∧ a ≤ b ∧ b ≤ 1000000000001
    · obtain ⟨na, _, _, h5⟩ := before_ev ls h2 a.toNat (by omega)
      obtain ⟨nb, _, _, h6⟩ := before_ev ls h2 b.toNat (by omega)
      rw [Int.toNat_of_nonneg (by omega)] at h5 h6
      exact ⟨_, Count_ok ls h2 h3 h.1 h.2.1 h.2.2 h5 h6⟩
    · exact ⟨_, Count_range ls h3 h⟩
  · exact ⟨_, Count_bad l h1 h2 a b⟩
theorem law_of (l : List S77) (a b c : Int) (p q r : Int × Int) (h1 : Ev (fun k => load_Count.f k l a b) p) (h2 : Ev (fun k => load_Count.f k l b c) q) (h3 : Ev (fun k => load_Count.f k l a c) r) (v : Bool)
    (h : Ev (fun k => if p.2 = 0 then dynamometerlaw7_LoadCountAddsUp.j0 k l a c p.1 q.1 r.1 r.2 (q.2 != 0) else dynamometerlaw7_LoadCountAddsUp.j0 k l a c p.1 q.1 r.1 r.2 true) v) :
    Ev (fun k => dynamometerlaw7_LoadCountAddsUp.f k l a b c) v := by
  unfold dynamometerlaw7_LoadCountAddsUp.f
  exact Ev.bind h1 (Ev.bind h2 (Ev.bind h3 h))
theorem wrap_adds (x y z : Nat) (hx : x ≤ 10000000000000) (hy : y ≤ 10000000000000) (hz : z ≤ 10000000000000) : wrap64 (wrap64 ((y : Int) - (x : Int)) + wrap64 ((z : Int) - (y : Int))) = wrap64 ((z : Int) - (x : Int)) := by
  have h1 : wrap64 ((y : Int) - (x : Int)) = (y : Int) - (x : Int) := w64 (by omega) (by omega)
  have h2 : wrap64 ((z : Int) - (y : Int)) = (z : Int) - (y : Int) := w64 (by omega) (by omega)
  rw [h1, h2]
  clear h1 h2
  congr 1
  omega
theorem law_ev (l : List S77) (a b c : Int) : Ev (fun k => dynamometerlaw7_LoadCountAddsUp.f k l a b c) true := by
  rcases Check_ev l with ⟨ls, h1, hg, hck⟩ | ⟨e, he, hck⟩
  · subst h1
    obtain ⟨r, hr⟩ := Count_any (ls.map toS) a c
    by_cases hab : 0 ≤ a ∧ a ≤ b ∧ b ≤ 1000000000001
    · by_cases hbc : 0 ≤ b ∧ b ≤ c ∧ c ≤ 1000000000001
      · obtain ⟨na, ba, la, ea⟩ := before_ev ls hg a.toNat (by omega)
        obtain ⟨nb, bb, lb, eb⟩ := before_ev ls hg b.toNat (by omega)
        obtain ⟨nc, bc, lc, ec⟩ := before_ev ls hg c.toNat (by omega)
        rw [Int.toNat_of_nonneg (by omega)] at ea eb ec
        have k1 := Count_ok ls hg hck hab.1 hab.2.1 hab.2.2 ea eb
        have k2 := Count_ok ls hg hck hbc.1 hbc.2.1 hbc.2.2 eb ec
        have k3 := Count_ok ls hg hck hab.1 (show a ≤ c by omega) hbc.2.2 ea ec
        refine law_of _ a b c _ _ _ k1 k2 k3 true ?_
        have hadd := wrap_adds na nb nc la lb lc
        have hj1 : Ev (fun k => dynamometerlaw7_LoadCountAddsUp.j1 k (ls.map toS) a c (wrap64 ((nc : Int) - (na : Int))) false) true := by
          rcases Even_ev ls hg hck with h | ⟨n, out, b1, b2, b3, b4, b5⟩
          · refine Ev.step (f := fun k => (load_Even.f k (ls.map toS)).bind fun t => if t.2 = 0 then dynamometerlaw7_LoadCountAddsUp.l0 k a c (wrap64 ((nc : Int) - (na : Int))) t.1 0 0 else if t.2 = 3 then (dynamometerlaw7_even.f k).bind fun t => some t else some false) (fun k => ?_) (Ev.bind h (Ev.congr (fun k => ?_) (Ev.bind even_ev (Ev.now _))))
            · simp only [dynamometerlaw7_LoadCountAddsUp.j1]
              rw [if_neg (by decide)]
            · rw [if_neg (by decide), if_pos rfl]
          · have hA : ∀ k : Nat, k < n → (rd out (k : Int) < a ↔ k < na) := by
              intro k hk
              obtain ⟨j, x, i1, i2⟩ := b5 k hk
              rw [← Bef_arr hg ba i1, i2]
              omega
            have hC : ∀ k : Nat, k < n → (rd out (k : Int) < c ↔ k < nc) := by
              intro k hk
              obtain ⟨j, x, i1, i2⟩ := b5 k hk
              rw [← Bef_arr hg bc i1, i2]
              omega
            have hcn : nc ≤ n := by
              by_cases h : nc ≤ n
              · exact h
              · have := Bef_end hg b1 (Bef_upto hg bc (show n < nc by omega))
                omega
            have han : na ≤ nc := by
              by_cases h : na ≤ nc
              · exact h
              · have h4 := Bef_end hg b1 (Bef_upto hg ba (show nc < na by omega))
                have h5 := (hA nc h4).2 (by omega)
                have h6 := (hC nc h4).1 (by omega)
                omega
            have hz : wrap64 ((nc : Int) - (na : Int)) = ((nc - na : Nat) : Int) := by
              have e : (nc : Int) - (na : Int) = ((nc - na : Nat) : Int) := by omega
              rw [e]; exact w64 (by omega) (by omega)
            have hl := law_l0 a c out na nc han (by omega) (by omega) (fun k hk => by
              have := hA k (by omega)
              constructor
              · intro h; by_cases hh : na ≤ k
                · exact hh
                · have := this.2 (by omega); omega
              · intro h; by_cases hh : a ≤ rd out (k : Int)
                · exact hh
                · have := this.1 (by omega); omega) (fun k hk => hC k (by omega)) out.length 0 (by omega)
            rw [hz]
            refine Ev.step (f := fun k => (load_Even.f k (ls.map toS)).bind fun t => if t.2 = 0 then dynamometerlaw7_LoadCountAddsUp.l0 k a c ((nc - na : Nat) : Int) t.1 0 0 else if t.2 = 3 then (dynamometerlaw7_even.f k).bind fun t => some t else some false) (fun k => ?_) (Ev.bind b3 (Ev.congr (fun k => ?_) hl))
            · simp only [dynamometerlaw7_LoadCountAddsUp.j1]
              rw [if_neg (by decide)]
            · rw [if_pos rfl]
              simp
        refine Ev.congr (f := fun k => dynamometerlaw7_LoadCountAddsUp.j0 k (ls.map toS) a c (wrap64 ((nb : Int) - (na : Int))) (wrap64 ((nc : Int) - (nb : Int))) (wrap64 ((nc : Int) - (na : Int))) 0 false) (fun k => ?_) (Ev.step (fun k => ?_) hj1)
        · rw [if_pos rfl]
          rfl
        · simp only [dynamometerlaw7_LoadCountAddsUp.j0]
          rw [if_neg (by decide), if_pos trivial, hadd, bne_self_eq_false]
      · obtain ⟨p, hp⟩ := Count_any (ls.map toS) a b
        have hq := Count_range ls hck hbc
        refine law_of _ a b c p _ r hp hq hr true ?_
        refine Ev.congr (fun k => ?_) (law_j0_even (ls.map toS) a c p.1 0 r.1 r.2)
        have e : ((9 : Int) != 0) = true := rfl
        simp only [e, ite_self]
    · obtain ⟨q, hq⟩ := Count_any (ls.map toS) b c
      have hp := Count_range ls hck hab
      refine law_of _ a b c _ q r hp hq hr true ?_
      refine Ev.congr (fun k => ?_) (law_j0_even (ls.map toS) a c 0 q.1 r.1 r.2)
      rw [if_neg (by decide)]
  · obtain ⟨q, hq⟩ := Count_any l b c
    obtain ⟨r, hr⟩ := Count_any l a c
    refine law_of _ a b c _ q r (Count_bad l he hck a b) hq hr true ?_
    refine Ev.congr (fun k => ?_) (law_j0_even l a c 0 q.1 r.1 r.2)
    rw [if_neg he]
end Go.Proofs.Ytjfldeoddjicoaa.QLoadCountAddsUp
