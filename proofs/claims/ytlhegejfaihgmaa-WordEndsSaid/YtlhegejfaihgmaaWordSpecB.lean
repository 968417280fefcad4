/-
  Plain: what 'word.Extend', 'word.Swap', 'word.Test' come to. No program.
-/
import Derived.Test.YtlhegejfaihgmaaWordSpec
namespace Go.Proofs.Ytlhegejfaihgmaa.Sp
open Go.RowKit

/-- The lowest bytes. -/
def ext (n bytes : Int) : Option Int :=
  if bytes = 1 then some (n % 256) else if bytes = 2 then some (n % 65536) else if bytes = 4 then some (n % 4294967296) else if bytes = 8 then some n else none

def extend (n bytes : Int) (signed : Bool) : Option Int :=
  match ext n bytes with
  | none => none
  | some r => some (if signed then wrap64 (wrap64 r * 2 ^ (64 - 8 * bytes).toNat) / 2 ^ (64 - 8 * bytes).toNat % 18446744073709551616 else r)

theorem ext_bounds {n bytes r : Int} (hn : 0 ≤ n) (hn2 : n < 18446744073709551616) (h : ext n bytes = some r) : 0 ≤ r ∧ r < 18446744073709551616 := by
  unfold ext at h
  split at h
  · cases h; omega
  · split at h
    · cases h; omega
    · split at h
      · cases h; omega
      · split at h
        · cases h; omega
        · cases h

theorem ext_bytes {n bytes r : Int} (h : ext n bytes = some r) : 1 ≤ bytes ∧ bytes ≤ 8 := by
  unfold ext at h
  split at h
  · omega
  · split at h
    · omega
    · split at h
      · omega
      · split at h
        · omega
        · cases h

def cmpI (a b : Int) : Int := if a < b then -1 else if b < a then 1 else 0

/-- What a condition says of two comparisons, without and with signs, and of the bits that both have. -/
def tst (c s an op : Int) : Option Bool :=
  if op = 16 then some (c == 0) else if op = 80 then some (c != 0) else if op = 64 then some (an != 0) else
  if op = 32 then some (decide (c > 0)) else if op = 48 then some (decide (c ≥ 0)) else if op = 160 then some (decide (c < 0)) else if op = 176 then some (decide (c ≤ 0)) else
  if op = 96 then some (decide (s > 0)) else if op = 112 then some (decide (s ≥ 0)) else if op = 192 then some (decide (s < 0)) else if op = 208 then some (decide (s ≤ 0)) else none

def resB : Option Bool → Value
  | some r => .tuple #[.bool r, .bool true]
  | none => .tuple #[.bool false, .bool false]
end Go.Proofs.Ytlhegejfaihgmaa.Sp
