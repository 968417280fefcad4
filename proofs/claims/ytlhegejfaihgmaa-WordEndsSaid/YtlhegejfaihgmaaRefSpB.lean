/-
  Plain: quotients and rests with signs, by those without. No program.
-/
import Derived.Test.YtlhegejfaihgmaaRefSp
namespace Go.Proofs.Ytlhegejfaihgmaa.Sp
open Go.RowKit
set_option linter.unusedVariables false
/-- A number, or its opposite, as a word. -/
def sgn (neg : Bool) (q : Int) : Int := if neg then IntKind.u64.wrap (-q) else q
theorem div_le {a b : Nat} (h : 0 < (b : Int)) : (a : Int) / (b : Int) ≤ a := Int.ediv_le_self _ (Int.natCast_nonneg _)
theorem quot_is32 {a b : Int} (x y : Bool) (hx : decide (wrap32 a < 0) = x) (hy : decide (wrap32 b < 0) = y) (hb : 0 < ((wrap32 b).natAbs : Int)) :
    (if (x != y) = true then (IntKind.u64.wrap (-(((wrap32 a).natAbs : Int) / ((wrap32 b).natAbs : Int)))).tmod 4294967296 else ((wrap32 a).natAbs : Int) / ((wrap32 b).natAbs : Int) % 4294967296) = (wrap32 a).tdiv (wrap32 b) % 4294967296 := by
  by_cases h : x = y
  · rw [if_neg (by simp [h]), tdiv_same (by rw [hx, hy, h])]
  · rw [if_pos (by simpa using h), tdiv_diff (by rw [hx, hy]; exact h), IntKind.wrap_u64, Int.tmod_eq_emod_of_nonneg (by omega)]
    omega
theorem quot_is64 {a b : Int} (x y : Bool) (hx : decide (wrap64 a < 0) = x) (hy : decide (wrap64 b < 0) = y) (hb : 0 < ((wrap64 b).natAbs : Int)) :
    (if (x != y) = true then IntKind.u64.wrap (-(((wrap64 a).natAbs : Int) / ((wrap64 b).natAbs : Int))) else ((wrap64 a).natAbs : Int) / ((wrap64 b).natAbs : Int)) = (wrap64 a).tdiv (wrap64 b) % 18446744073709551616 := by
  have h0 : 0 ≤ ((wrap64 a).natAbs : Int) / ((wrap64 b).natAbs : Int) := Int.ediv_nonneg (Int.natCast_nonneg _) (Int.natCast_nonneg _)
  have h1 : ((wrap64 a).natAbs : Int) / ((wrap64 b).natAbs : Int) ≤ (wrap64 a).natAbs := div_le hb
  have h2 := abs64_le (n := a)
  by_cases h : x = y
  · rw [if_neg (by simp [h]), tdiv_same (by rw [hx, hy, h])]
    omega
  · rw [if_pos (by simpa using h), tdiv_diff (by rw [hx, hy]; exact h), IntKind.wrap_u64]
theorem rest_is32 {a b : Int} (x y : Bool) (hx : decide (wrap32 a < 0) = x) (hy : decide (wrap32 b < 0) = y) (hb : 0 < ((wrap32 b).natAbs : Int)) :
    (if x = true then (IntKind.u64.wrap (-(((wrap32 a).natAbs : Int) % ((wrap32 b).natAbs : Int)))).tmod 4294967296 else ((wrap32 a).natAbs : Int) % ((wrap32 b).natAbs : Int) % 4294967296) = (wrap32 a).tmod (wrap32 b) % 4294967296 := by
  cases x
  · rw [if_neg (by decide), tmod_pos (by simpa using hx)]
  · rw [if_pos rfl, tmod_neg (x := wrap32 a) (y := wrap32 b) (by simpa using hx), IntKind.wrap_u64]
    generalize ((wrap32 a).natAbs : Int) % ((wrap32 b).natAbs : Int) = r
    rw [Int.tmod_eq_emod_of_nonneg (by omega)]
    omega
theorem rest_is64 {a b : Int} (x y : Bool) (hx : decide (wrap64 a < 0) = x) (hy : decide (wrap64 b < 0) = y) (hb : 0 < ((wrap64 b).natAbs : Int)) :
    (if x = true then IntKind.u64.wrap (-(((wrap64 a).natAbs : Int) % ((wrap64 b).natAbs : Int))) else ((wrap64 a).natAbs : Int) % ((wrap64 b).natAbs : Int)) = (wrap64 a).tmod (wrap64 b) % 18446744073709551616 := by
  have h0 : 0 ≤ ((wrap64 a).natAbs : Int) % ((wrap64 b).natAbs : Int) := Int.emod_nonneg _ (by omega)
  have h1 : ((wrap64 a).natAbs : Int) % ((wrap64 b).natAbs : Int) < ((wrap64 b).natAbs : Int) := Int.emod_lt_of_pos _ hb
  have h2 := abs64_le (n := b)
  cases x
  · rw [if_neg (by decide), tmod_pos (by simpa using hx)]
    omega
  · rw [if_pos rfl, tmod_neg (by simpa using hx), IntKind.wrap_u64]
theorem q_bd {a b : Nat} (ha : (a : Int) ≤ 9223372036854775808) (hb : 0 < (b : Int)) : 0 ≤ (a : Int) / (b : Int) ∧ (a : Int) / (b : Int) < 18446744073709551616 := by
  have h1 : 0 ≤ (a : Int) / (b : Int) := Int.ediv_nonneg (Int.natCast_nonneg _) (Int.natCast_nonneg _)
  have h2 : (a : Int) / (b : Int) ≤ a := div_le hb
  omega
theorem r_bd {a b : Nat} (hb : 0 < (b : Int)) (hb2 : (b : Int) ≤ 9223372036854775808) : 0 ≤ (a : Int) % (b : Int) ∧ (a : Int) % (b : Int) < 18446744073709551616 := by
  have h0 : 0 ≤ (a : Int) % (b : Int) := Int.emod_nonneg _ (by omega)
  have h1 : (a : Int) % (b : Int) < (b : Int) := Int.emod_lt_of_pos _ hb
  omega
end Go.Proofs.Ytlhegejfaihgmaa.Sp
