/-
  Plain: what 'word.Alu', 'word.Test' come to; the values lie in their words. No program.
-/
import Derived.Test.YtlhegejfaihgmaaWordSpecB
import Derived.Test.YtlhegejfaihgmaaWordSpecC
namespace Go.Proofs.Ytlhegejfaihgmaa.Sp
open Go.RowKit
set_option linter.unusedVariables false

def W64 (x : Int) : Prop := 0 ≤ x ∧ x < 18446744073709551616
theorem w64_mk {x : Int} (h0 : 0 ≤ x) (h1 : x < 18446744073709551616) : W64 x := ⟨h0, h1⟩

def aluW (op off : Int) (wide : Bool) (a b : Int) : Option Int :=
  if wide = false then alu 4294967296 wrap32 32 op off (a % 4294967296) (b % 4294967296)
  else if op = 176 ∧ off = 32 then some (wrap32 b % 18446744073709551616)
  else alu 18446744073709551616 wrap64 64 op off a b

/-- The value, or what the statements take in its place. -/
def val (op off : Int) (wide : Bool) (a b : Int) : Int := (aluW op off wide a b).getD 18446744073709551613

theorem mod_bd (x : Int) {M : Int} (h : 0 < M) : 0 ≤ x % M ∧ x % M < M := ⟨Int.emod_nonneg _ (by omega), Int.emod_lt_of_pos _ h⟩

theorem bits_bd32 {op : BinOp} {a b : Int} : 0 ≤ bits op .u32 a b ∧ bits op .u32 a b < 4294967296 := by
  unfold bits
  simp only [IntKind.wrap_u32]
  exact mod_bd _ (by decide)
theorem bits_bd64 {op : BinOp} {a b : Int} : 0 ≤ bits op .u64 a b ∧ bits op .u64 a b < 18446744073709551616 := by
  unfold bits
  simp only [IntKind.wrap_u64]
  exact mod_bd _ (by decide)

theorem div_bd {a M : Int} (h0 : 0 ≤ a) (h1 : a < M) (k : Nat) : 0 ≤ a / 2 ^ k ∧ a / 2 ^ k < M := by
  have hp : (0 : Int) < 2 ^ k := Int.pow_pos (by decide)
  exact ⟨Int.ediv_nonneg h0 (Int.le_of_lt hp), Int.lt_of_le_of_lt (Int.ediv_le_self _ h0) h1⟩

theorem emod_bd {a b M : Int} (h0 : 0 ≤ a) (h1 : a < M) (hb : 0 ≤ b) (hb2 : b < M) : 0 ≤ a % b ∧ a % b < M := by
  by_cases h : b = 0
  · subst h; simpa using ⟨h0, h1⟩
  · exact ⟨Int.emod_nonneg _ h, Int.lt_trans (Int.emod_lt_of_pos _ (by omega)) hb2⟩

theorem pick {c : Prop} [Decidable c] {x r : Int} {y : Option Int} {B : Int → Prop} (hx : B x) (hy : y = some r → B r) (h : (if c then some x else y) = some r) : B r := by
  split at h
  · cases h; exact hx
  · exact hy h

theorem alu_bd {M : Int} {S : Int → Int} {W op off a b r : Int} (hM : (W = 32 ∧ M = 4294967296) ∨ (W ≠ 32 ∧ M = 18446744073709551616)) (ha : 0 ≤ a) (ha2 : a < M) (hb : 0 ≤ b) (hb2 : b < M)
    (h : alu M S W op off a b = some r) : 0 ≤ r ∧ r < M := by
  have hM0 : 0 < M := by omega
  have hbits : ∀ o : BinOp, 0 ≤ bits o (if W = 32 then .u32 else .u64) a b ∧ bits o (if W = 32 then .u32 else .u64) a b < M := by
    intro o
    rcases hM with ⟨h1, h2⟩ | ⟨h1, h2⟩
    · rw [if_pos h1, h2]; exact bits_bd32
    · rw [if_neg h1, h2]; exact bits_bd64
  unfold alu at h
  revert h
  refine pick (B := fun r => 0 ≤ r ∧ r < M) (mod_bd _ hM0) ?_
  refine pick (B := fun r => 0 ≤ r ∧ r < M) (mod_bd _ hM0) ?_
  refine pick (B := fun r => 0 ≤ r ∧ r < M) (mod_bd _ hM0) ?_
  refine pick (B := fun r => 0 ≤ r ∧ r < M) (mod_bd _ hM0) ?_
  refine pick (B := fun r => 0 ≤ r ∧ r < M) (mod_bd _ hM0) ?_
  refine pick (B := fun r => 0 ≤ r ∧ r < M) (emod_bd ha ha2 hb hb2) ?_
  refine pick (B := fun r => 0 ≤ r ∧ r < M) (mod_bd _ hM0) ?_
  refine pick (B := fun r => 0 ≤ r ∧ r < M) (hbits _) ?_
  refine pick (B := fun r => 0 ≤ r ∧ r < M) (hbits _) ?_
  refine pick (B := fun r => 0 ≤ r ∧ r < M) (hbits _) ?_
  refine pick (B := fun r => 0 ≤ r ∧ r < M) (mod_bd _ hM0) ?_
  refine pick (B := fun r => 0 ≤ r ∧ r < M) (div_bd ha ha2 _) ?_
  refine pick (B := fun r => 0 ≤ r ∧ r < M) (mod_bd _ hM0) ?_
  refine pick (B := fun r => 0 ≤ r ∧ r < M) (mod_bd _ hM0) ?_
  refine pick (B := fun r => 0 ≤ r ∧ r < M) ⟨hb, hb2⟩ ?_
  refine pick (B := fun r => 0 ≤ r ∧ r < M) (mod_bd _ hM0) ?_
  refine pick (B := fun r => 0 ≤ r ∧ r < M) (mod_bd _ hM0) ?_
  intro h
  cases h

theorem aluW_bd {op off : Int} {wide : Bool} {a b r : Int} (ha : W64 a) (hb : W64 b) (h : aluW op off wide a b = some r) : W64 r := by
  unfold aluW at h
  have h1 := mod_bd a (M := 4294967296) (by decide)
  have h2 := mod_bd b (M := 4294967296) (by decide)
  split at h
  · have := alu_bd (.inl ⟨rfl, rfl⟩) h1.1 h1.2 h2.1 h2.2 h
    exact ⟨this.1, by omega⟩
  · split at h
    · cases h; exact mod_bd _ (by decide)
    · exact alu_bd (.inr ⟨by decide, rfl⟩) ha.1 ha.2 hb.1 hb.2 h

theorem val_w64 {op off : Int} {wide : Bool} {a b : Int} (ha : W64 a) (hb : W64 b) : W64 (val op off wide a b) := by
  unfold val
  cases h : aluW op off wide a b with
  | none => exact ⟨by decide, by decide⟩
  | some r => exact aluW_bd ha hb h

theorem val_none {op off : Int} {wide : Bool} {a b : Int} (h : aluW op off wide a b = none) : val op off wide a b = 18446744073709551613 := by unfold val; rw [h]; rfl
theorem val_some {op off : Int} {wide : Bool} {a b r : Int} (h : aluW op off wide a b = some r) : val op off wide a b = r := by unfold val; rw [h]; rfl

def testW (op : Int) (wide : Bool) (a b : Int) : Option Bool :=
  if wide = true then tst (cmpI a b) (cmpI (wrap64 a) (wrap64 b)) (bits .and .u64 a b) op
  else tst (cmpI (a % 4294967296) (b % 4294967296)) (cmpI (wrap32 (a % 4294967296)) (wrap32 (b % 4294967296))) (bits .and .u32 (a % 4294967296) (b % 4294967296)) op

/-- New blocks alone. -/
def Ok (w w' : World) : Prop := Below w.heap.size w w'
theorem Ok.refl (w : World) : Ok w w := Below.refl _ _
theorem Ok.trans {a b c : World} (h : Ok a b) (k : Ok b c) : Ok a c := Below.trans h (Below.mono k h.size)
theorem Ok.drew {a b : World} (h : Ok a b) : Ok a b.drew := Below.drew h
theorem Ok.alloc {a b : World} (h : Ok a b) (o : Obj) : Ok a (b.alloc o) := Below.alloc h h.size o
end Go.Proofs.Ytlhegejfaihgmaa.Sp
