/-
  Plain: what 'word.alu' comes to, of one width: M is two to the width, S the number with a sign. No program.
-/
import Derived.WalkKit
namespace Go.Proofs.Ytlhegejfaihgmaa.Sp
open Go.RowKit

/-- An operation's value; none: there is no such operation. -/
def alu (M : Int) (S : Int → Int) (W : Int) (op off a b : Int) : Option Int :=
  if op = 0 ∧ off = 0 then some ((a + b) % M) else
  if op = 16 ∧ off = 0 then some ((a - b) % M) else
  if op = 32 ∧ off = 0 then some (a * b % M) else
  if op = 48 ∧ off = 0 then some (a.tdiv b % M) else
  if op = 48 ∧ off = 1 then some (S ((S a).tdiv (S b)) % M) else
  if op = 144 ∧ off = 0 then some (a % b) else
  if op = 144 ∧ off = 1 then some ((S a).tmod (S b) % M) else
  if op = 64 ∧ off = 0 then some (bits .or (if W = 32 then .u32 else .u64) a b) else
  if op = 80 ∧ off = 0 then some (bits .and (if W = 32 then .u32 else .u64) a b) else
  if op = 160 ∧ off = 0 then some (bits .xor (if W = 32 then .u32 else .u64) a b) else
  if op = 96 ∧ off = 0 then some (a * 2 ^ (b % W).toNat % M) else
  if op = 112 ∧ off = 0 then some (a / 2 ^ (b % W).toNat) else
  if op = 192 ∧ off = 0 then some (S a / 2 ^ (b % W).toNat % M) else
  if op = 128 ∧ off = 0 then some (-a % M) else
  if op = 176 ∧ off = 0 then some b else
  if op = 176 ∧ off = 8 then some (IntKind.i8.wrap b % M) else
  if op = 176 ∧ off = 16 then some (IntKind.i16.wrap b % M) else none

def res (k : IntKind) : Option Int → Value
  | some r => .tuple #[.int k r, .bool true]
  | none => .tuple #[.int k 0, .bool false]

theorem w32 : wrap32 0 = 0 := by unfold wrap32; decide
theorem w64 : wrap64 0 = 0 := by unfold wrap64; decide
theorem div_u64 {M W a b : Int} {S : Int → Int} (ha : 0 ≤ a) (ha2 : a < M) (hb : 0 ≤ b) : Ending.returned (.tuple #[.int .u64 (a.tdiv b), .bool true]) = Ending.returned (res .u64 (alu M S W 48 0 a b)) := by
  have h1 : 0 ≤ a.tdiv b := Int.tdiv_nonneg ha hb
  have h2 : a.tdiv b ≤ a := Int.tdiv_le_self b ha
  have h3 : a.tdiv b % M = a.tdiv b := Int.emod_eq_of_lt h1 (by omega)
  simp [alu, res, h3]
theorem div_u64' {M W a b : Int} {S : Int → Int} (ha : 0 ≤ a) (ha2 : a < M) (hb : 0 ≤ b) : Ending.returned (.tuple #[.int .u64 (a / b), .bool true]) = Ending.returned (res .u64 (alu M S W 48 0 a b)) := by
  rw [← Int.tdiv_eq_ediv_of_nonneg ha]
  exact div_u64 ha ha2 hb
theorem div_zero {k : IntKind} {M W a b : Int} {S : Int → Int} (h : (b == 0) = true) : Ending.returned (.tuple #[.int k 0, .bool true]) = Ending.returned (res k (alu M S W 48 0 a b)) := by
  simp only [beq_iff_eq] at h
  subst h
  simp [alu, res]
theorem sdiv_zero {k : IntKind} {M W a b : Int} {S : Int → Int} (hS : S 0 = 0) (h : (S b == 0) = true) : Ending.returned (.tuple #[.int k 0, .bool true]) = Ending.returned (res k (alu M S W 48 1 a b)) := by
  simp only [beq_iff_eq] at h
  simp [alu, res, h, hS]
theorem mod_zero {k : IntKind} {M W a b : Int} {S : Int → Int} (h : (b == 0) = true) : Ending.returned (.tuple #[.int k a, .bool true]) = Ending.returned (res k (alu M S W 144 0 a b)) := by
  simp only [beq_iff_eq] at h
  subst h
  simp [alu, res]
theorem smod_zero {k : IntKind} {M W a b : Int} {S : Int → Int} (h : (S b == 0) = true) : Ending.returned (.tuple #[.int k (S a % M), .bool true]) = Ending.returned (res k (alu M S W 144 1 a b)) := by
  simp only [beq_iff_eq] at h
  simp [alu, res, h]
end Go.Proofs.Ytlhegejfaihgmaa.Sp
