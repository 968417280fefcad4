/-
  The contracts of hatchwaykit.mark, markByte.
-/
import Derived.Test.YtddeckkcfcodbaaGreatSame
namespace Go.Proofs.YtddeckkcfcodbaaGreat.M
open Go.RowKit
set_option linter.unusedVariables false
set_option linter.unusedSectionVars false
set_option linter.unusedSimpArgs false
def mkI (k i : Int) : Int := wrap64 (wrap64 (1000003 * wrap64 (k + 7)) + i)
theorem markI (k i : Int) (w : World) : Calls Tryz.prog 45 #[.int .i64 k, .int .i64 i] w fun e w' => e = .returned (.int .i64 (mkI k i)) ∧ w = w' := by
  go_enter Tryz.func45, Tryz.ntmps45
  go_wp2
  go_ret
  exact ⟨rfl, rfl⟩
theorem markB_ex : ∃ f : Int → Int → Int, ∀ (k i : Int) (w : World), Calls Tryz.prog 43 #[.int .i64 k, .int .i64 i] w fun e w' => e = .returned (.int .u8 (f k i)) ∧ w' = w := by
  refine ⟨fun k i => IntKind.u64.wrap (IntKind.u64.wrap (mkI k i) * 11400714819323198485) / 72057594037927936 % 256, fun k i w => ?_⟩
  go_enter Tryz.func43, Tryz.ntmps43
  go_wp2_with (go_at_call 45; refine (markI _ _ _).mono ?_; rintro e w1 ⟨rfl, rfl⟩)
  go_ret
  exact ⟨rfl, rfl⟩
/-- The mark of a byte: some number. -/
noncomputable def mb : Int → Int → Int := Classical.choose markB_ex
theorem markB' (k i : Int) (w : World) : Calls Tryz.prog 43 #[.int .i64 k, .int .i64 i] w fun e w' => e = .returned (.int .u8 (mb k i)) ∧ w' = w := Classical.choose_spec markB_ex k i w
theorem markB (k i : Int) (w : World) : Calls Tryz.prog 43 #[.int .i64 k, .int .i64 i] w fun e w' => e = .returned (.int .u8 (mb k i)) ∧ w = w' := (markB' k i w).mono fun _ _ ⟨h1, h2⟩ => ⟨h1, h2.symm⟩
end Go.Proofs.YtddeckkcfcodbaaGreat.M
