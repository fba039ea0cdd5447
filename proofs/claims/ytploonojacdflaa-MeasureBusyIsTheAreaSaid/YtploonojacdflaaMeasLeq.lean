/- '<=' on strings is 'not the other way less'. -/
import Derived.Test.YtploonojacdflaaQMeasureBusyIsTheAreax0
import Derived.WalkKit
namespace Go.Proofs.Ytploonojacdflaa.QMeasureBusyIsTheArea
open Go.RowKit
theorem less_total : ∀ a b : List UInt8, (Op.bytesLess a b || a == b) = !Op.bytesLess b a
  | [], [] => by simp [Op.bytesLess]
  | [], _ :: _ => by simp [Op.bytesLess]
  | _ :: _, [] => by simp [Op.bytesLess]
  | x :: a, y :: b => by
    have ih := less_total a b
    simp only [Op.bytesLess]
    by_cases h : x = y
    · subst h
      simp at ih ⊢
      exact ih
    · have e1 : (x == y) = false := beq_eq_false_iff_ne.2 h
      have e2 : (y == x) = false := beq_eq_false_iff_ne.2 (fun e => h e.symm)
      rcases Nat.lt_or_gt_of_ne (fun e => h (UInt8.toNat_inj.1 e)) with h2 | h2
      · have h3 : x < y := h2
        have h4 : ¬ y < x := fun h5 => absurd (show y.toNat < x.toNat from h5) (by omega)
        simp [e1, e2, h3, h4]
      · have h3 : y < x := h2
        have h4 : ¬ x < y := fun h5 => absurd (show x.toNat < y.toNat from h5) (by omega)
        simp [e1, e2, h3, h4]
theorem leq9 (a b : ByteArray) (w : World) : (binOp BinOp.leq 9 (.string a) (.string b)).run Try.prog w = .ok (.bool (!Op.bytesLess b.toList a.toList)) w := by
  rw [← less_total]
  simp [binOp, Op.stringOp]
end Go.Proofs.Ytploonojacdflaa.QMeasureBusyIsTheArea
