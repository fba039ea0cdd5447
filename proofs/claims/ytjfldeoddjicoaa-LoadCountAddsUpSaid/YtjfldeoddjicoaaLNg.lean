/- load.product: the product of whole numbers. -/
import Derived.Test.YtjfldeoddjicoaaLNf
namespace Go.Proofs.Ytjfldeoddjicoaa.QLoadCountAddsUp
open Go.RowKit Go.Proofs.YtjfldeoddjicoaaW.PrintWords Go.Proofs.YtjfldeoddjicoaaW.PrintLast Go.Proofs.YtjfldeoddjicoaaW.PrintMore
set_option linter.unusedVariables false
set_option linter.unusedSimpArgs false
theorem enc_len_one {n : Nat} (h : n < 9223372036854775808) : (enc n).length ≤ 1 := enc_len_le 1 n (by omega)
theorem enc_len_mul (m n : Nat) : (enc (m * n)).length ≤ (enc m).length + (enc n).length := by
  refine enc_len_le _ _ ?_
  rw [Nat.pow_add]
  exact Nat.mul_lt_mul'' (len_enc_lt m) (len_enc_lt n)
theorem product_l0 (xs : List Nat) (hx : ∀ x ∈ xs, x < 9223372036854775808) (hl : xs.length < 100000) : ∀ (d i acc : Nat), i + d = xs.length → (enc acc).length ≤ i + 1 →
    Ev (fun k => load_product.l0 k (enc acc) (xs.map (fun x : Nat => (x : Int))) (xs.length : Int) (i : Int)) (enc ((xs.drop i).foldl (· * ·) acc)) := by
  intro d
  induction d with
  | zero =>
    intro i acc hi hb
    rw [List.drop_of_length_le (by omega)]
    refine Ev.step (f := fun _ => some (enc acc)) (fun k => ?_) (Ev.now _)
    simp only [load_product.l0]
    rw [if_neg (by omega)]
  | succ d ih0 =>
    intro i acc hi hb
    have b1 : i < xs.length := by omega
    have hv : xs[i] < 9223372036854775808 := hx _ (List.getElem_mem b1)
    have h1 := enc_len_one hv
    have h2 := enc_len_mul acc xs[i]
    have ih := ih0 (i + 1) (acc * xs[i]) (by omega) (by omega)
    have hm := Mul_ev acc xs[i] (by omega)
    have hw : wrap64 ((i : Int) + 1) = ((i + 1 : Nat) : Int) := by rw [w64 (by omega) (by omega)]; omega
    have hr : rd (xs.map (fun x : Nat => (x : Int))) (i : Int) = ((xs[i] : Nat) : Int) := by rw [rd_nat _ i (by simpa using b1), List.getElem_map]
    rw [List.drop_eq_getElem_cons b1, List.foldl_cons]
    refine Ev.step (f := fun k => (nat_Mul.f k (enc acc) (enc xs[i])).bind fun t => load_product.l0 k t (xs.map (fun x : Nat => (x : Int))) (xs.length : Int) ((i + 1 : Nat) : Int)) (fun k => ?_) (Ev.bind hm ih)
    simp only [load_product.l0]
    rw [if_pos (by omega), if_pos (by omega), if_pos (by simp; omega), hr, Of_eq hv, Option.bind_some, hw]
theorem product_ev (xs : List Nat) (hx : ∀ x ∈ xs, x < 9223372036854775808) (hl : xs.length < 100000) : Ev (fun k => load_product.f k (xs.map (fun x : Nat => (x : Int)))) (enc (xs.foldl (· * ·) 1)) := by
  have h := product_l0 xs hx hl xs.length 0 1 (by omega) (by have := enc_len_one (n := 1) (by omega); omega)
  refine Ev.congr (fun k => ?_) h
  have h1 := Of_eq (n := 1) (by omega)
  simp only [load_product.f]
  rw [show nat_Of.f 1 = some (enc 1) from h1, Option.bind_some, List.length_map]
  rfl
end Go.Proofs.Ytjfldeoddjicoaa.QLoadCountAddsUp
