/-
  The bits of a group, by looking at them all. No program.
-/
import Derived.Test.YtmaeiifhmngllaaCellSp
namespace Go.Proofs.Ytmaeiifhmngllaa.M
open Go.RowKit
set_option linter.unusedVariables false
set_option linter.unusedSectionVars false
set_option linter.unusedSimpArgs false
def bitB (m : Int) (q : Nat) : Bool := decide (m / 2 ^ q % 2 = 1)
theorem or_bitF : ∀ x : Fin 256, ∀ f : Fin 8, ∀ n : Fin 9, f.val + n.val ≤ 8 → ∀ q : Fin 8, bitB (bits .or .u8 (x.val : Int) (maskI f.val n.val)) q.val = (decide (f.val ≤ q.val ∧ q.val < f.val + n.val) || bitB (x.val : Int) q.val) := by decide +kernel
theorem or_rngF : ∀ x : Fin 256, ∀ f : Fin 8, ∀ n : Fin 9, f.val + n.val ≤ 8 → 0 ≤ bits .or .u8 (x.val : Int) (maskI f.val n.val) ∧ bits .or .u8 (x.val : Int) (maskI f.val n.val) ≤ 255 := by decide +kernel
theorem and_okF : ∀ x : Fin 256, ∀ f : Fin 8, ∀ n : Fin 9, f.val + n.val ≤ 8 → (bits .and .u8 (x.val : Int) (maskI f.val n.val) = maskI f.val n.val ↔ ∀ q : Fin 8, f.val ≤ q.val → q.val < f.val + n.val → bitB (x.val : Int) q.val = true) := by decide +kernel
end Go.Proofs.Ytmaeiifhmngllaa.M
