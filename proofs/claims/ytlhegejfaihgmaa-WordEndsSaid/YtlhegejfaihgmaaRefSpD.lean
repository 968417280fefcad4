/-
  Plain: the reference's conditions, bytes turned round one by one, words widened. No program.
-/
import Derived.Test.YtlhegejfaihgmaaRefSpC
import Derived.Test.YtlhegejfaihgmaaWordOrdersSp
import Derived.Test.YtlhegejfaihgmaaWordSwapsSp
namespace Go.Proofs.Ytlhegejfaihgmaa.Sp
open Go.RowKit
set_option linter.unusedVariables false

theorem above32 {a b : Int} (x y : Bool) (ha : 0 ≤ a ∧ a < 4294967296) (hb : 0 ≤ b ∧ b < 4294967296) (hx : decide (wrap32 a < 0) = x) (hy : decide (wrap32 b < 0) = y) :
    (if (x != y) = true then y else decide (b < a)) = decide (wrap32 b < wrap32 a) := by
  subst hx hy
  by_cases h : (decide (wrap32 a < 0) != decide (wrap32 b < 0)) = true
  · rw [if_pos h]
    refine decide_eq_decide.2 ?_
    by_cases h1 : wrap32 a < 0 <;> by_cases h2 : wrap32 b < 0 <;> simp [h1, h2] at h ⊢ <;> omega
  · rw [if_neg h]
    refine decide_eq_decide.2 ?_
    by_cases h1 : wrap32 a < 0 <;> by_cases h2 : wrap32 b < 0 <;> simp [h1, h2] at h <;> (unfold wrap32 at *; omega)
theorem above64 {a b : Int} (x y : Bool) (ha : W64 a) (hb : W64 b) (hx : decide (wrap64 a < 0) = x) (hy : decide (wrap64 b < 0) = y) :
    (if (x != y) = true then y else decide (b < a)) = decide (wrap64 b < wrap64 a) := by
  obtain ⟨ha1, ha2⟩ := ha
  obtain ⟨hb1, hb2⟩ := hb
  subst hx hy
  by_cases h : (decide (wrap64 a < 0) != decide (wrap64 b < 0)) = true
  · rw [if_pos h]
    refine decide_eq_decide.2 ?_
    by_cases h1 : wrap64 a < 0 <;> by_cases h2 : wrap64 b < 0 <;> simp [h1, h2] at h ⊢ <;> omega
  · rw [if_neg h]
    refine decide_eq_decide.2 ?_
    by_cases h1 : wrap64 a < 0 <;> by_cases h2 : wrap64 b < 0 <;> simp [h1, h2] at h <;> (unfold wrap64 at *; omega)

theorem c_eq (a b : Int) : (cmpI a b == 0) = (a == b) := by
  unfold cmpI
  by_cases h1 : a < b
  · have h2 : a ≠ b := by omega
    simp [h1, h2]
  · by_cases h2 : b < a
    · have h3 : a ≠ b := by omega
      simp [h1, h2, h3]
    · have h3 : a = b := by omega
      simp [h3]
theorem c_ne (a b : Int) : (cmpI a b != 0) = (a != b) := by
  have := c_eq a b
  simp only [bne, this]
theorem c_ge (a b : Int) : decide (cmpI a b ≥ 0) = !decide (a < b) := by
  rw [← cmp_neg, ← decide_not]
  exact decide_eq_decide.2 (by omega)
theorem c_le (a b : Int) : decide (cmpI a b ≤ 0) = !decide (b < a) := by
  rw [← cmp_pos, ← decide_not]
  exact decide_eq_decide.2 (by omega)
theorem and_narrow (a b : Int) : (bits .and .u64 (a % 4294967296) (b % 4294967296) != 0) = (bits .and .u32 (a % 4294967296) (b % 4294967296) != 0) := by
  obtain ⟨n, hn, h1⟩ := cast_u32 a
  obtain ⟨m, hm, h2⟩ := cast_u32 b
  rw [hn, hm, and_u32 _ _ h1 h2, and_u64 _ _ (by omega) (by omega)]

/-- What a condition tells, the comparisons laid open; the words cut. -/
theorem tf (op a b : Int) : testW op false a b = tst (cmpI (a % 4294967296) (b % 4294967296)) (cmpI (wrap32 (a % 4294967296)) (wrap32 (b % 4294967296))) (bits .and .u32 (a % 4294967296) (b % 4294967296)) op := rfl
theorem tt (op a b : Int) : testW op true a b = tst (cmpI a b) (cmpI (wrap64 a) (wrap64 b)) (bits .and .u64 a b) op := rfl
theorem finB {op : Int} {wide : Bool} {a b : Int} {x : Bool} (h : testW op wide a b = some x) : Ending.returned (.tuple #[.bool x, .bool true]) = Ending.returned (resB (testW op wide a b)) := by rw [h]; rfl

/-- Bytes turned round, one by one. -/
def rv (x : Int) : Nat → Int
  | 0 => 0
  | k + 1 => rv x k * 256 + x / 2 ^ (8 * k) % 256
theorem rv_bd {x : Int} : ∀ k : Nat, 0 ≤ rv x k ∧ rv x k < 256 ^ k
  | 0 => ⟨Int.le_refl 0, (by decide : (0 : Int) < 1)⟩
  | k + 1 => by
    have h := rv_bd (x := x) k
    have e : (256 : Int) ^ (k + 1) = 256 ^ k * 256 := Int.pow_succ 256 k
    have e2 : rv x (k + 1) = rv x k * 256 + x / 2 ^ (8 * k) % 256 := rfl
    rw [e, e2]
    generalize (256 : Int) ^ k = q at *
    generalize x / 2 ^ (8 * k) = y at *
    generalize rv x k = z at *
    omega
theorem and_255 {y : Int} (h : W64 y) : bits .and .u64 y 255 = y % 256 := by
  obtain ⟨h1, h2⟩ := h
  obtain ⟨n, rfl⟩ := Int.eq_ofNat_of_zero_le h1
  have e : bits .and .u64 (n : Int) 255 = ((n &&& 255 : Nat) : Int) := and_u64 n 255 (by omega) (by omega)
  rw [e]
  have h3 : n &&& 255 = n % 256 := and_low n 8
  rw [h3]
  omega
theorem rv_step {x : Int} (hx : W64 x) (k : Nat) (hk : k < 8) : bits .or .u64 (IntKind.u64.wrap (rv x k * 256)) (bits .and .u64 (x / 2 ^ (8 * k)) 255) = rv x (k + 1) := by
  have hb := rv_bd (x := x) k
  have hp : (256 : Int) ^ k ≤ 72057594037927936 := by
    have hk2 : k = 0 ∨ k = 1 ∨ k = 2 ∨ k = 3 ∨ k = 4 ∨ k = 5 ∨ k = 6 ∨ k = 7 := by omega
    rcases hk2 with rfl | rfl | rfl | rfl | rfl | rfl | rfl | rfl <;> decide
  generalize (256 : Int) ^ k = q at *
  have hw := w64_div hx (8 * k)
  rw [and_255 hw, IntKind.wrap_u64]
  have e2 : rv x (k + 1) = rv x k * 256 + x / 2 ^ (8 * k) % 256 := rfl
  rw [e2]
  generalize rv x k = r at *
  obtain ⟨n, hn⟩ : ∃ n : Nat, r = n := ⟨r.toNat, by omega⟩
  obtain ⟨m, hm⟩ : ∃ m : Nat, x / 2 ^ (8 * k) % 256 = m := ⟨(x / 2 ^ (8 * k) % 256).toNat, by omega⟩
  have hm2 : m < 256 := by omega
  subst hn
  rw [hm]
  have e : (n : Int) * 256 % 18446744073709551616 = ((2 ^ 8 * n : Nat) : Int) := by omega
  rw [e, or_u64 _ _ (by omega) (by omega), Nat.or_comm, or_hi 8 n m hm2]
  omega
theorem rv_step' {x : Int} (hx : W64 x) (k m : Nat) (hm : m = 8 * k) (hk : k < 8) : bits .or .u64 (IntKind.u64.wrap (rv x k * 256)) (bits .and .u64 (x / 2 ^ m) 255) = rv x (k + 1) := by
  subst hm; exact rv_step hx k hk
theorem rv_w64 {x : Int} (k : Nat) (hk : k ≤ 8) : W64 (rv x k) := by
  have hb := rv_bd (x := x) k
  have hk2 : k = 0 ∨ k = 1 ∨ k = 2 ∨ k = 3 ∨ k = 4 ∨ k = 5 ∨ k = 6 ∨ k = 7 ∨ k = 8 := by omega
  have hp : (256 : Int) ^ k ≤ 18446744073709551616 := by
    rcases hk2 with rfl | rfl | rfl | rfl | rfl | rfl | rfl | rfl | rfl <;> decide
  exact ⟨hb.1, by omega⟩
theorem rv2 {x : Int} (h0 : 0 ≤ x) (h1 : x < 65536) : rv x 2 = rev16 x := by
  have e : rv x 2 = (0 * 256 + x / 1 % 256) * 256 + x / 256 % 256 := rfl
  rw [e]; unfold rev16; omega
theorem rv4 {x : Int} (h0 : 0 ≤ x) (h1 : x < 4294967296) : rv x 4 = rev32 x := by
  have e : rv x 4 = (((0 * 256 + x / 1 % 256) * 256 + x / 256 % 256) * 256 + x / 65536 % 256) * 256 + x / 16777216 % 256 := rfl
  rw [e]; unfold rev32
  have e2 : x / 16777216 % 256 = x / 16777216 := by omega
  rw [e2]; omega
theorem rv8 {x : Int} (hx : W64 x) : rv x 8 = rev64 x := by
  obtain ⟨h0, h1⟩ := hx
  have e : rv x 8 = (((((((0 * 256 + x / 1 % 256) * 256 + x / 256 % 256) * 256 + x / 65536 % 256) * 256 + x / 16777216 % 256) * 256 + x / 4294967296 % 256) * 256 + x / 1099511627776 % 256) * 256 + x / 281474976710656 % 256) * 256 + x / 72057594037927936 % 256 := rfl
  rw [e]; unfold rev64 rev32
  have a0 : x / 4294967296 / 16777216 = x / 72057594037927936 % 256 := by omega
  have a1 : x / 4294967296 / 65536 % 256 = x / 281474976710656 % 256 := by omega
  have a2 : x / 4294967296 / 256 % 256 = x / 1099511627776 % 256 := by omega
  have b0 : x % 4294967296 / 16777216 = x / 16777216 % 256 := by omega
  have b1 : x % 4294967296 / 65536 % 256 = x / 65536 % 256 := by omega
  have b2 : x % 4294967296 / 256 % 256 = x / 256 % 256 := by omega
  have b3 : x % 4294967296 % 256 = x / 1 % 256 := by omega
  rw [a0, a1, a2, b0, b1, b2, b3]
  generalize x / 72057594037927936 % 256 = d7
  generalize x / 281474976710656 % 256 = d6
  generalize x / 1099511627776 % 256 = d5
  generalize x / 4294967296 % 256 = d4
  generalize x / 16777216 % 256 = d3
  generalize x / 65536 % 256 = d2
  generalize x / 256 % 256 = d1
  generalize x / 1 % 256 = d0
  omega

theorem finS {order width n x : Int} (h : swap order width n = some x) : Ending.returned (.tuple #[.int .u64 x, .bool true]) = Ending.returned (res .u64 (swap order width n)) := by rw [h]; rfl
theorem finE {n bytes x : Int} {s : Bool} (h : extend n bytes s = some x) : Ending.returned (.tuple #[.int .u64 x, .bool true]) = Ending.returned (res .u64 (extend n bytes s)) := by rw [h]; rfl
theorem ext_none {n bytes : Int} {s : Bool} (h1 : bytes ≠ 1) (h2 : bytes ≠ 2) (h4 : bytes ≠ 4) (h8 : bytes ≠ 8) : extend n bytes s = none := by
  unfold extend ext
  simp [h1, h2, h4, h8]

theorem e1y {n : Int} (h : (bits .and .u64 (n % 256 / 128) 1 == 1) = true) : extend n 1 true = some (IntKind.u64.wrap (n % 256 - 256)) := by
  have h1 := of_decide_eq_true (and1 (by omega) (by omega) h)
  have e : extend n 1 true = some (wrap64 (wrap64 (n % 256) * 72057594037927936) / 72057594037927936 % 18446744073709551616) := rfl
  rw [e, IntKind.wrap_u64]; unfold wrap64; congr 1; omega
theorem e1n {n : Int} (h : (bits .and .u64 (n % 256 / 128) 1 == 1) = false) : extend n 1 true = some (n % 256) := by
  have h1 := of_decide_eq_false (and1 (by omega) (by omega) h)
  have e : extend n 1 true = some (wrap64 (wrap64 (n % 256) * 72057594037927936) / 72057594037927936 % 18446744073709551616) := rfl
  rw [e]; unfold wrap64; congr 1; omega
theorem e2y {n : Int} (h : (bits .and .u64 (n % 65536 / 32768) 1 == 1) = true) : extend n 2 true = some (IntKind.u64.wrap (n % 65536 - 65536)) := by
  have h1 := of_decide_eq_true (and1 (by omega) (by omega) h)
  have e : extend n 2 true = some (wrap64 (wrap64 (n % 65536) * 281474976710656) / 281474976710656 % 18446744073709551616) := rfl
  rw [e, IntKind.wrap_u64]; unfold wrap64; congr 1; omega
theorem e2n {n : Int} (h : (bits .and .u64 (n % 65536 / 32768) 1 == 1) = false) : extend n 2 true = some (n % 65536) := by
  have h1 := of_decide_eq_false (and1 (by omega) (by omega) h)
  have e : extend n 2 true = some (wrap64 (wrap64 (n % 65536) * 281474976710656) / 281474976710656 % 18446744073709551616) := rfl
  rw [e]; unfold wrap64; congr 1; omega
theorem e4y {n : Int} (h : (bits .and .u64 (n % 4294967296 / 2147483648) 1 == 1) = true) : extend n 4 true = some (IntKind.u64.wrap (n % 4294967296 - 4294967296)) := by
  have h1 := of_decide_eq_true (and1 (by omega) (by omega) h)
  have e : extend n 4 true = some (wrap64 (wrap64 (n % 4294967296) * 4294967296) / 4294967296 % 18446744073709551616) := rfl
  rw [e, IntKind.wrap_u64]; unfold wrap64; congr 1; omega
theorem e4n {n : Int} (h : (bits .and .u64 (n % 4294967296 / 2147483648) 1 == 1) = false) : extend n 4 true = some (n % 4294967296) := by
  have h1 := of_decide_eq_false (and1 (by omega) (by omega) h)
  have e : extend n 4 true = some (wrap64 (wrap64 (n % 4294967296) * 4294967296) / 4294967296 % 18446744073709551616) := rfl
  rw [e]; unfold wrap64; congr 1; omega
theorem e8t {n : Int} (hn : W64 n) : extend n 8 true = some n := by
  obtain ⟨h0, h1⟩ := hn
  have e : extend n 8 true = some (wrap64 (wrap64 n * 1) / 1 % 18446744073709551616) := rfl
  rw [e]; unfold wrap64; congr 1; omega
end Go.Proofs.Ytlhegejfaihgmaa.Sp
