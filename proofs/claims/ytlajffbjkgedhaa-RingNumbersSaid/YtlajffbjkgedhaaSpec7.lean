/-
  kinds.Spec at a ring's make: right just if its room is from 16 to 16384.
-/
import Derived.Test.YtlajffbjkgedhaaMakes
namespace Go.Proofs.Ytlajffbjkgedhaa.M
open Go.RowKit
set_option linter.unusedVariables false
set_option linter.unusedSectionVars false
set_option linter.unusedSimpArgs false
theorem bhas (lo hi n : Int) (w : World) (h1 : lo ≤ n) (h2 : n ≤ hi) :
    Calls Try.prog 34 #[.agg #[.int .i64 lo, .int .i64 hi], .int .i64 n] w fun e w' => e = .returned (.bool true) ∧ w.alloc (.cells #[.int .i64 lo, .int .i64 hi] 94) = w' := by
  go_enter Try.func34, Try.ntmps34
  go_wp2
  go_ret
  exact ⟨rfl, rfl⟩
set_option maxRecDepth 100000 in
set_option maxHeartbeats 2000000 in
theorem spec7 (n : Int) (w : World) (h1 : 16 ≤ n) (h2 : n ≤ 16384) :
    Calls Try.prog 23 #[.agg #[.int .u8 7, .int .i64 0, .int .i64 0, .int .i64 n]] w fun e w' => e = .returned (.int .i64 0) ∧ But [] w w' := by
  have hmm := @run_makeMap Try.prog
  have i1 := makes_ins1
  have i2 := makes_ins2
  have i3 := makes_ins3
  have i4 := makes_ins4
  have i5 := makes_ins5
  have i6 := makes_ins6
  have i7 := makes_ins7
  have i8 := makes_ins8
  have ig := makes_get
  go_enter Try.func23, Try.ntmps23
  go_wp2_with (go_at_call 34; refine (bhas _ _ _ _ (by omega) (by omega)).mono ?_; rintro e w1 ⟨rfl, rfl⟩)
  go_ret
  exact ⟨rfl, by repeat (first | exact But.refl _ _ | refine But.alloc ?_ _)⟩
end Go.Proofs.Ytlajffbjkgedhaa.M
