/- The walk of the law MeasureBucketsMatchSpec. Condition: the bucket is within the kind. -/
import Derived.Test.YtploonojacdflaaMeasE
import Derived.Test.YtploonojacdflaaMeasCounts
namespace Go.Proofs.Ytploonojacdflaa
open Go.Shelf Go.RowKit Go.Maps Go.Proofs.Ytploonojacdflaa.QMeasureBucketsMatchSpec
open Go.Proofs.YtploonojacdflaaW.PrintWords
set_option maxRecDepth 100000 in
set_option maxHeartbeats 4000000 in
theorem law3_walk (bits v bucket : Int) (hb : bucket ≤ 9223372036854775807) (w : World) :
    Calls Try.prog 3 #[.int .i64 bits, .int .i64 v, .int .i64 bucket] w fun e w' => e = .returned (.bool true) ∧ Below w.heap.size w w' := by
  obtain ⟨a, e, h1, h2, h3⟩ := bucket_law bits v
  obtain ⟨x, y, g, h4, h5⟩ := limits_law bits bucket hb
  have c6 := fun W => measure_Bucket.calls 101 bits v a e W h1
  have c7 := fun W => dynamometerref9_Bucket.calls 101 bits v a e W h2
  have c8 := fun W => measure_Limits.calls 101 bits bucket x y g W h4
  have c9 := fun W => dynamometerref9_Limits.calls 101 bits bucket x y g W h5
  by_cases he : e = 0
  · subst he
    rcases h3 with h3 | ⟨lo, hi, h6, h7, h8⟩
    · exact absurd rfl h3
    · have c8' := fun W => measure_Limits.calls 101 bits a lo hi 0 W h6
      have d1 : decide (v < lo) = false := decide_eq_false (by omega)
      have d2 : decide (hi < v) = false := decide_eq_false (by omega)
      clear h1 h2 h4 h5 h6 hb
      go_enter Try.func3, Try.ntmps3
      go_wp2_with (first
        | (go_at_call 6; (with_reducible refine (c6 _).mono ?_); rintro e w' ⟨rfl, ⟨n6, rfl⟩⟩)
        | (go_at_call 7; (with_reducible refine (c7 _).mono ?_); rintro e w' ⟨rfl, ⟨n7, rfl⟩⟩)
        | (go_at_call 8; (with_reducible refine (c8 _).mono ?_); rintro e w' ⟨rfl, ⟨n8, rfl⟩⟩)
        | (go_at_call 8; (with_reducible refine (c8' _).mono ?_); rintro e w' ⟨rfl, ⟨n10, rfl⟩⟩)
        | (go_at_call 9; (with_reducible refine (c9 _).mono ?_); rintro e w' ⟨rfl, ⟨n9, rfl⟩⟩)
        | (go_at_call 10; (with_reducible refine (counts10 _).mono ?_); rintro e w10 ⟨rfl, hB⟩)
        | go_in)
      go_ret
      exact ⟨rfl, (pw_below_drewN (Below.refl w.heap.size w) _).trans hB⟩
  · have d0 : decide (e = 0) = false := decide_eq_false he
    clear h1 h2 h4 h5 hb h3
    go_enter Try.func3, Try.ntmps3
    go_wp2_with (first
      | (go_at_call 6; (with_reducible refine (c6 _).mono ?_); rintro e w' ⟨rfl, ⟨n6, rfl⟩⟩)
      | (go_at_call 7; (with_reducible refine (c7 _).mono ?_); rintro e w' ⟨rfl, ⟨n7, rfl⟩⟩)
      | (go_at_call 8; (with_reducible refine (c8 _).mono ?_); rintro e w' ⟨rfl, ⟨n8, rfl⟩⟩)
      | (go_at_call 9; (with_reducible refine (c9 _).mono ?_); rintro e w' ⟨rfl, ⟨n9, rfl⟩⟩)
      | (go_at_call 10; (with_reducible refine (counts10 _).mono ?_); rintro e w10 ⟨rfl, hB⟩)
      | go_in)
    go_ret
    exact ⟨rfl, (pw_below_drewN (Below.refl w.heap.size w) _).trans hB⟩
end Go.Proofs.Ytploonojacdflaa
