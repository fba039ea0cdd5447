/- The limits of a bucket, by measure and by its reference. -/
import Derived.Test.YtlkameeaaplonaaDoorMeasC
namespace Go.Proofs.YtlkameeaaplonaaDoor.QMeasureMergeIsTogether
open Go.RowKit Go.Proofs.YtlkameeaaplonaaDoorW.PrintWords Go.Proofs.YtlkameeaaplonaaDoorW.PrintLast Go.Proofs.YtlkameeaaplonaaDoorW.PrintMore
set_option linter.unusedVariables false
set_option linter.unusedSimpArgs false
section
variable {b p J : Nat} (P : Par b p J)
include P
theorem pw_le {i : Nat} (h : i ≤ J) : 2 * p * 2 ^ i ≤ 1125899906842624 := by
  rw [← P.pow]
  exact Nat.mul_le_mul_left _ (Nat.pow_le_pow_right (by decide) h)
end
end Go.Proofs.YtlkameeaaplonaaDoor.QMeasureMergeIsTogether
