/-
  Plain: of two opposite conditions just one holds; with signs words stand as those with the highest bit turned do without. No program.
-/
import Derived.Test.YtlhegejfaihgmaaWordBitsSp
namespace Go.Proofs.Ytlhegejfaihgmaa.Sp
open Go.RowKit
set_option linter.unusedVariables false

theorem xor_split (k x y : Nat) : x ^^^ y = 2 ^ k * (x / 2 ^ k ^^^ y / 2 ^ k) + (x % 2 ^ k ^^^ y % 2 ^ k) := by
  rw [← Nat.xor_div_two_pow, ← Nat.xor_mod_two_pow]
  exact (Nat.div_add_mod _ _).symm
theorem xor_one (y : Nat) : (y ^^^ 1) % 2 = 1 - y % 2 := by
  rw [xor_split 1 y 1]
  have h1 : (1 : Nat) / 2 ^ 1 = 0 := rfl
  have h2 : (1 : Nat) % 2 ^ 1 = 1 := rfl
  rw [h1, h2, Nat.xor_zero]
  have h : y % 2 ^ 1 = 0 ∨ y % 2 ^ 1 = 1 := by omega
  rcases h with h | h <;> rw [h] <;> simp <;> omega
theorem xor_top (k x : Nat) : (x ^^^ 2 ^ k) % 2 ^ (k + 1) = (x + 2 ^ k) % 2 ^ (k + 1) := by
  rw [xor_split k x (2 ^ k), Nat.div_self (Nat.two_pow_pos k), Nat.mod_self, Nat.xor_zero, Nat.pow_succ]
  have h1 := xor_one (x / 2 ^ k)
  have hp := Nat.two_pow_pos k
  have hx := Nat.div_add_mod x (2 ^ k)
  have hl := Nat.mod_lt x hp
  generalize x / 2 ^ k = q at *
  generalize x % 2 ^ k = r at *
  generalize hK : 2 ^ k = K at *
  subst hx
  have e1 : K * (q ^^^ 1) + r = K * 2 * ((q ^^^ 1) / 2) + (K * ((q ^^^ 1) % 2) + r) := by
    have := Nat.div_add_mod (q ^^^ 1) 2
    calc K * (q ^^^ 1) + r = K * (2 * ((q ^^^ 1) / 2) + (q ^^^ 1) % 2) + r := by rw [this]
      _ = _ := by rw [Nat.mul_add, Nat.mul_assoc]; omega
  have e2 : K * q + r + K = K * 2 * ((q + 1) / 2) + (K * ((q + 1) % 2) + r) := by
    have := Nat.div_add_mod (q + 1) 2
    calc K * q + r + K = K * (q + 1) + r := by rw [Nat.mul_add, Nat.mul_one]; omega
      _ = K * (2 * ((q + 1) / 2) + (q + 1) % 2) + r := by rw [this]
      _ = _ := by rw [Nat.mul_add, Nat.mul_assoc]; omega
  have e3 : (q + 1) % 2 = 1 - q % 2 := by omega
  rw [e1, e2, e3, h1, Nat.mul_add_mod, Nat.mul_add_mod]

theorem xor64 {a : Int} (ha : W64 a) : bits .xor .u64 a 9223372036854775808 = (a + 9223372036854775808) % 18446744073709551616 := by
  obtain ⟨ha1, ha2⟩ := ha
  obtain ⟨n, rfl⟩ := Int.eq_ofNat_of_zero_le ha1
  rw [u64_xor _ _ (by omega) (by omega) (by omega) (by omega), Int.toNat_natCast]
  have h := xor_top 63 n
  have hl : n ^^^ 2 ^ 63 < 2 ^ 64 := Nat.xor_lt_two_pow (by omega) (by decide)
  have e : (9223372036854775808 : Int).toNat = 2 ^ 63 := rfl
  rw [e]
  rw [Nat.mod_eq_of_lt hl] at h
  rw [h]
  omega
theorem xor32 {a : Int} (ha : W64 a) : bits .xor .u64 a 2147483648 % 4294967296 = (a + 2147483648) % 4294967296 := by
  obtain ⟨ha1, ha2⟩ := ha
  obtain ⟨n, rfl⟩ := Int.eq_ofNat_of_zero_le ha1
  rw [u64_xor _ _ (by omega) (by omega) (by omega) (by omega), Int.toNat_natCast]
  have h := xor_top 31 n
  have e : (2147483648 : Int).toNat = 2 ^ 31 := rfl
  rw [e]
  generalize n ^^^ 2 ^ 31 = y at *
  omega

theorem cmp_pos (a b : Int) : decide (cmpI a b > 0) = decide (b < a) := by
  unfold cmpI
  by_cases h1 : a < b
  · have h2 : ¬ b < a := by omega
    simp [h1, h2]
  · by_cases h2 : b < a <;> simp [h1, h2]
theorem cmp_neg (a b : Int) : decide (cmpI a b < 0) = decide (a < b) := by
  unfold cmpI
  by_cases h1 : a < b
  · simp [h1]
  · by_cases h2 : b < a <;> simp [h1, h2]

/-- The comparisons of a width. -/
def cU (wide : Bool) (a b : Int) : Int := cmpI (a % md wide) (b % md wide)
def cS (wide : Bool) (a b : Int) : Int := cmpI (sg wide (a % md wide)) (sg wide (b % md wide))

theorem testW_is (op : Int) (wide : Bool) {a b : Int} (ha : W64 a) (hb : W64 b) : ∃ an, testW op wide a b = tst (cU wide a b) (cS wide a b) an op := by
  cases wide
  · exact ⟨_, rfl⟩
  · refine ⟨bits .and .u64 a b, ?_⟩
    unfold cU cS
    rw [cut_md ha, cut_md hb]
    rfl

structure OrdFacts (wide : Bool) (a b : Int) (x1 y1 x2 y2 x3 y3 x4 y4 x5 y5 l : Bool) : Prop where
  a1 : testW 16 wide a b = some x1
  b1 : testW 80 wide a b = some y1
  c1 : (x1 == y1) = false
  a2 : testW 32 wide a b = some x2
  b2 : testW 176 wide a b = some y2
  c2 : (x2 == y2) = false
  a3 : testW 48 wide a b = some x3
  b3 : testW 160 wide a b = some y3
  c3 : (x3 == y3) = false
  a4 : testW 96 wide a b = some x4
  b4 : testW 208 wide a b = some y4
  c4 : (x4 == y4) = false
  a5 : testW 112 wide a b = some x5
  b5 : testW 192 wide a b = some y5
  c5 : (x5 == y5) = false
  u : testW 32 wide (bits .xor .u64 a (if wide then 9223372036854775808 else 2147483648)) (bits .xor .u64 b (if wide then 9223372036854775808 else 2147483648)) = some x4
  l : testW 160 wide b a = some x2

theorem ne_bool {p q : Bool} (h : p = !q) : (p == q) = false := by cases q <;> simp_all
theorem W64_xor {a c : Int} : W64 (bits .xor .u64 a c) := bits_bd64

theorem ord (wide : Bool) {a b : Int} (ha : W64 a) (hb : W64 b) : ∃ x1 y1 x2 y2 x3 y3 x4 y4 x5 y5 l, OrdFacts wide a b x1 y1 x2 y2 x3 y3 x4 y4 x5 y5 l := by
  have T := fun op => testW_is op wide ha hb
  have T' := fun op => testW_is op wide hb ha
  have TX := testW_is 32 wide (W64_xor (a := a) (c := if wide then 9223372036854775808 else 2147483648)) (W64_xor (a := b) (c := if wide then 9223372036854775808 else 2147483648))
  obtain ⟨_, t16⟩ := T 16
  obtain ⟨_, t80⟩ := T 80
  obtain ⟨_, t32⟩ := T 32
  obtain ⟨_, t176⟩ := T 176
  obtain ⟨_, t48⟩ := T 48
  obtain ⟨_, t160⟩ := T 160
  obtain ⟨_, t96⟩ := T 96
  obtain ⟨_, t208⟩ := T 208
  obtain ⟨_, t112⟩ := T 112
  obtain ⟨_, t192⟩ := T 192
  obtain ⟨_, tl⟩ := T' 160
  obtain ⟨_, tu⟩ := TX
  refine ⟨_, _, _, _, _, _, _, _, _, _, true, ⟨t16.trans rfl, t80.trans rfl, ne_bool (by simp [bne]), t32.trans rfl, t176.trans rfl, ne_bool ?_, t48.trans rfl, t160.trans rfl, ne_bool ?_, t96.trans rfl, t208.trans rfl, ne_bool ?_, t112.trans rfl, t192.trans rfl, ne_bool ?_, tu.trans ?_, tl.trans ?_⟩⟩
  · rw [← decide_not]; exact decide_eq_decide.2 (by omega)
  · rw [← decide_not]; exact decide_eq_decide.2 (by omega)
  · rw [← decide_not]; exact decide_eq_decide.2 (by omega)
  · rw [← decide_not]; exact decide_eq_decide.2 (by omega)
  · show some (decide (cU wide _ _ > 0)) = some (decide (cS wide a b > 0))
    unfold cU cS
    rw [cmp_pos, cmp_pos]
    congr 1
    refine decide_eq_decide.2 ?_
    cases wide
    · show bits .xor .u64 b 2147483648 % 4294967296 < bits .xor .u64 a 2147483648 % 4294967296 ↔ wrap32 (b % 4294967296) < wrap32 (a % 4294967296)
      rw [xor32 ha, xor32 hb]
      unfold wrap32
      omega
    · show bits .xor .u64 b 9223372036854775808 % 18446744073709551616 < bits .xor .u64 a 9223372036854775808 % 18446744073709551616 ↔ wrap64 (b % 18446744073709551616) < wrap64 (a % 18446744073709551616)
      rw [xor64 ha, xor64 hb]
      unfold wrap64
      omega
  · show some (decide (cU wide b a < 0)) = some (decide (cU wide a b > 0))
    unfold cU
    rw [cmp_neg, cmp_pos]
end Go.Proofs.Ytlhegejfaihgmaa.Sp
