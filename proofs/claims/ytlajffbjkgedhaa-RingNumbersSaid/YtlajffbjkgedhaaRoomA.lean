/-
  The closure that Room hands to itself: it adds a row's bytes, and eight, to what is used.
-/
import Derived.Test.YtlajffbjkgedhaaRingOff
namespace Go.Proofs.Ytlajffbjkgedhaa.M
open Go.RowKit
set_option linter.unusedVariables false
set_option linter.unusedSectionVars false
set_option linter.unusedSimpArgs false
theorem room1 (B : Nat) (u : Int) (a : Option Addr) (m c : Nat) (w : World) (hc : w.cell? ⟨B, 0, none⟩ = some (.int .i64 u)) (hf : w.frozen? ⟨B, 0, none⟩ = false) :
    Calls Try.prog 30 #[.slice a m c, .pointer (some ⟨B, 0, none⟩)] w fun e w' => e = nothing ∧ w.setCell ⟨B, 0, none⟩ (.int .i64 (wrap64 (u + wrap64 (8 + m)))) = w' := by
  go_enter Try.func30, Try.ntmps30
  go_wp2
  go_end0
  exact ⟨rfl, rfl⟩
end Go.Proofs.Ytlajffbjkgedhaa.M
