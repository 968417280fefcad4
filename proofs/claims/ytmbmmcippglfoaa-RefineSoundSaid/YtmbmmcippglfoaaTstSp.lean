/-
  Plain: what 'word.Test' comes to. No program.
-/
import Derived.WalkKit
namespace Go.Proofs.Ytmbmmcippglfoaa.Sp
open Go.RowKit
def cmpI (a b : Int) : Int := if a < b then -1 else if b < a then 1 else 0
/-- What a condition says of two comparisons, without and with signs, and of the bits that both have. -/
def tst (c s an op : Int) : Option Bool :=
  if op = 16 then some (c == 0) else if op = 80 then some (c != 0) else if op = 64 then some (an != 0) else
  if op = 32 then some (decide (c > 0)) else if op = 48 then some (decide (c ≥ 0)) else if op = 160 then some (decide (c < 0)) else if op = 176 then some (decide (c ≤ 0)) else
  if op = 96 then some (decide (s > 0)) else if op = 112 then some (decide (s ≥ 0)) else if op = 192 then some (decide (s < 0)) else if op = 208 then some (decide (s ≤ 0)) else none
def resB : Option Bool → Value
  | some r => .tuple #[.bool r, .bool true]
  | none => .tuple #[.bool false, .bool false]
end Go.Proofs.Ytmbmmcippglfoaa.Sp
