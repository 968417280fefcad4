/-
  Plain: what 'word.Swap' comes to. No program.
-/
import Derived.Test.YtlhegejfaihgmaaWordSpec
import Derived.Test.YtlhegejfaihgmaaBits
namespace Go.Proofs.Ytlhegejfaihgmaa.Sp
open Go.RowKit
set_option linter.unusedVariables false

theorem rev16_bounds (x : Int) (h0 : 0 ≤ x) (h1 : x < 65536) : 0 ≤ rev16 x ∧ rev16 x < 65536 := by unfold rev16; omega
theorem rev32_bounds (x : Int) (h0 : 0 ≤ x) (h1 : x < 4294967296) : 0 ≤ rev32 x ∧ rev32 x < 4294967296 := by unfold rev32; omega

def swap (order width n : Int) : Option Int :=
  if 0 ≤ order ∧ order ≤ 2 then
    if width = 16 then some (if order = 0 then n % 65536 else rev16 (n % 65536)) else
    if width = 32 then some (if order = 0 then n % 4294967296 else rev32 (n % 4294967296)) else
    if width = 64 then some (if order = 0 then n else rev64 n) else none
  else none

theorem swap_none {order width n : Int} (h : ¬ (0 ≤ order ∧ order ≤ 2) ∨ (width ≠ 16 ∧ width ≠ 32 ∧ width ≠ 64)) : swap order width n = none := by
  unfold swap
  rcases h with h | ⟨h1, h2, h3⟩
  · rw [if_neg h]
  · simp [h1, h2, h3]
theorem swap16 {order n r : Int} (h : 0 ≤ order ∧ order ≤ 2) (hn : 0 ≤ n) (hn2 : n < 18446744073709551616) (hr : (order = 0 ∧ r = n % 65536) ∨ (order ≠ 0 ∧ r = rev16 (n % 65536))) :
    Ending.returned (.tuple #[.int .u64 r, .bool true]) = Ending.returned (res .u64 (swap order 16 n)) := by
  rcases hr with ⟨h1, h2⟩ | ⟨h1, h2⟩ <;> simp [swap, h, h1, h2, res]
theorem swap32 {order n r : Int} (h : 0 ≤ order ∧ order ≤ 2) (hn : 0 ≤ n) (hn2 : n < 18446744073709551616) (hr : (order = 0 ∧ r = n % 4294967296) ∨ (order ≠ 0 ∧ r = rev32 (n % 4294967296))) :
    Ending.returned (.tuple #[.int .u64 r, .bool true]) = Ending.returned (res .u64 (swap order 32 n)) := by
  rcases hr with ⟨h1, h2⟩ | ⟨h1, h2⟩ <;> simp [swap, h, h1, h2, res]
theorem swap64 {order n r : Int} (h : 0 ≤ order ∧ order ≤ 2) (hn : 0 ≤ n) (hn2 : n < 18446744073709551616) (hr : (order = 0 ∧ r = n) ∨ (order ≠ 0 ∧ r = rev64 n)) :
    Ending.returned (.tuple #[.int .u64 r, .bool true]) = Ending.returned (res .u64 (swap order 64 n)) := by
  rcases hr with ⟨h1, h2⟩ | ⟨h1, h2⟩ <;> simp [swap, h, h1, h2, res]
end Go.Proofs.Ytlhegejfaihgmaa.Sp
