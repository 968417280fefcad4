/-
  The key type of 'word.alu''s table (a struct of a byte and a short): its keys are found by what they are.
-/
import Derived.Test.YtlhegejfaihgmaaProg
import Derived.WalkKit
import Derived.Maps.Keyed
import Derived.DeepKeys4
namespace Go.Proofs.Ytlhegejfaihgmaa.WordKeys
open Go.RowKit
theorem mixed : Try.prog.follows .mixedOrders = true := by kernel_rfl
theorem laidOut : laidOutB Try.prog = true := by kernel_rfl
theorem keyed : Go.Maps.Keyed Try.prog 59 := Go.Maps.Keyed.of_law (deep_law_laid laidOut (m := 5) (by decide) (by decide +kernel) (by kernel_rfl) (by kernel_rfl))
theorem key (op off : Int) (hop : 0 ≤ op) (hop2 : op < 256) (hoff : -32768 ≤ off) (hoff2 : off < 32768) : (keyOf Try.prog 59 (.agg #[.int .u8 op, .int .i16 off])).isSome = true := by
  have h1 : (Lit.int .u8 op).wf = true := WalkArith.wf_u8 (by omega)
  have h2 : (Lit.int .i16 off).wf = true := WalkArith.wf_i16 (by omega)
  have hk : Try.prog.keyType 59 = true := by kernel_rfl
  have hc : Try.prog.cellsOf 59 = 2 := by kernel_rfl
  have hc5 : Try.prog.cellsOf 5 = 1 := by kernel_rfl
  have hc22 : Try.prog.cellsOf 25 = 1 := by kernel_rfl
  obtain ⟨n, ht⟩ : ∃ n, Try.prog.types.size + 1 = n + 2 := ⟨Try.prog.types.size - 1, by kernel_rfl⟩
  unfold keyOf
  simp only [Try.underlying59]
  rw [hk, ht]
  simp [Value.formed, Try.underlying59, hc, Value.cells, Program.keyLits, hc5, hc22, Try.underlying5, Try.underlying25, h1, h2]
end Go.Proofs.Ytlhegejfaihgmaa.WordKeys
