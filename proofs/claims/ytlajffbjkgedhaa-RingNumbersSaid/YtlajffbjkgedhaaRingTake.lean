/-
  Take, at a ring that is one; New.
-/
import Derived.Test.YtlajffbjkgedhaaRingOff
namespace Go.Proofs.Ytlajffbjkgedhaa.M
open Go.RowKit
set_option linter.unusedVariables false
set_option linter.unusedSectionVars false
set_option linter.unusedSimpArgs false
theorem ringTake_none (R : Nat) (l : Value) (n : Int) (w : World) (hR : w.heap[R]? = some (.cells #[.pointer none, l, .int .i64 n] 52)) (hn : 0 < n) :
    Calls Try.prog 12 #[.pointer (some ⟨R, 0, none⟩)] w fun e w' => e = .returned (.tuple #[.slice none 0 0, .int .i64 6]) ∧ w = w' := by
  go_enter Try.func12, Try.ntmps12
  go_wp2_with (first | (go_at_call 26; refine (known_yes R _ l n _ hR hn).mono ?_; rintro e w1 ⟨rfl, rfl⟩) | (go_at_call 27; refine (take_none R l _ _ hR).mono ?_; rintro e w1 ⟨rfl, rfl⟩))
  go_ret2
  exact ⟨rfl, rfl⟩
theorem ringTake_some (R b : Nat) (a : Option Addr) (m c : Nat) (q : Option Addr) (l : Value) (n : Int) (w : World) (hR : w.heap[R]? = some (.cells #[.pointer (some ⟨b, 0, none⟩), l, .int .i64 n] 52)) (hn : 0 < n) (hb : w.heap[b]? = some (.cells #[.slice a m c, .pointer q] 105)) (hne : b ≠ R) :
    Calls Try.prog 12 #[.pointer (some ⟨R, 0, none⟩)] w fun e w' => e = .returned (.tuple #[.slice a m c, .int .i64 0]) ∧ w.setCell ⟨R, 0, none⟩ (.pointer q) = w' := by
  go_enter Try.func12, Try.ntmps12
  go_wp2_with (first | (go_at_call 26; refine (known_yes R _ l n _ hR hn).mono ?_; rintro e w1 ⟨rfl, rfl⟩) | (go_at_call 27; refine (take_some R b a m c q l _ _ hR hb hne).mono ?_; rintro e w1 ⟨rfl, rfl⟩))
  go_ret2
  exact ⟨rfl, rfl⟩
end Go.Proofs.Ytlajffbjkgedhaa.M
