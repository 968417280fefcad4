/-
  Plain: and, or, xor belong together; shifts to the left and back. No program.
-/
import Derived.Test.YtlhegejfaihgmaaWordRingSp
namespace Go.Proofs.Ytlhegejfaihgmaa.Sp
open Go.RowKit
set_option linter.unusedVariables false

theorem bits32 (op : BinOp) (a b : Int) : bits op .u32 a b = (((match op with | .and => BitVec.ofInt 32 a &&& BitVec.ofInt 32 b | .or => BitVec.ofInt 32 a ||| BitVec.ofInt 32 b | .xor => BitVec.ofInt 32 a ^^^ BitVec.ofInt 32 b | _ => BitVec.ofInt 32 a &&& ~~~BitVec.ofInt 32 b) : BitVec 32).toNat : Int) := by
  unfold bits
  simp only [IntKind.wrap_u32]
  refine Int.emod_eq_of_lt (Int.natCast_nonneg _) ?_
  have := (show BitVec 32 from (match op with | .and => BitVec.ofInt 32 a &&& BitVec.ofInt 32 b | .or => BitVec.ofInt 32 a ||| BitVec.ofInt 32 b | .xor => BitVec.ofInt 32 a ^^^ BitVec.ofInt 32 b | _ => BitVec.ofInt 32 a &&& ~~~BitVec.ofInt 32 b)).isLt
  exact Int.ofNat_lt.2 this
theorem bits64 (op : BinOp) (a b : Int) : bits op .u64 a b = (((match op with | .and => BitVec.ofInt 64 a &&& BitVec.ofInt 64 b | .or => BitVec.ofInt 64 a ||| BitVec.ofInt 64 b | .xor => BitVec.ofInt 64 a ^^^ BitVec.ofInt 64 b | _ => BitVec.ofInt 64 a &&& ~~~BitVec.ofInt 64 b) : BitVec 64).toNat : Int) := by
  unfold bits
  simp only [IntKind.wrap_u64]
  refine Int.emod_eq_of_lt (Int.natCast_nonneg _) ?_
  have := (show BitVec 64 from (match op with | .and => BitVec.ofInt 64 a &&& BitVec.ofInt 64 b | .or => BitVec.ofInt 64 a ||| BitVec.ofInt 64 b | .xor => BitVec.ofInt 64 a ^^^ BitVec.ofInt 64 b | _ => BitVec.ofInt 64 a &&& ~~~BitVec.ofInt 64 b)).isLt
  exact Int.ofNat_lt.2 this

theorem and_add_xor {n : Nat} (x y : BitVec n) : (x &&& y) + (x ^^^ y) = x ||| y := by
  rw [BitVec.add_eq_or_of_and_eq_zero]
  · ext i hi
    simp only [BitVec.getElem_or, BitVec.getElem_and, BitVec.getElem_xor]
    cases x[i] <;> cases y[i] <;> rfl
  · ext i hi
    simp only [BitVec.getElem_and, BitVec.getElem_xor, BitVec.getElem_zero]
    cases x[i] <;> cases y[i] <;> rfl
theorem xor_xor {n : Nat} (x y : BitVec n) : x ^^^ y ^^^ y = x := by
  rw [BitVec.xor_assoc, BitVec.xor_self, BitVec.xor_zero]

theorem v_and (wide : Bool) {a b : Int} (ha : W64 a) (hb : W64 b) : val 80 0 wide a b = bits .and (if wide then .u64 else .u32) (a % md wide) (b % md wide) := by
  cases wide
  · rfl
  · rw [cut_md ha, cut_md hb]; rfl
theorem v_or (wide : Bool) {a b : Int} (ha : W64 a) (hb : W64 b) : val 64 0 wide a b = bits .or (if wide then .u64 else .u32) (a % md wide) (b % md wide) := by
  cases wide
  · rfl
  · rw [cut_md ha, cut_md hb]; rfl
theorem v_xor (wide : Bool) {a b : Int} (ha : W64 a) (hb : W64 b) : val 160 0 wide a b = bits .xor (if wide then .u64 else .u32) (a % md wide) (b % md wide) := by
  cases wide
  · rfl
  · rw [cut_md ha, cut_md hb]; rfl
theorem v_mov (wide : Bool) {a b : Int} (hb : W64 b) : val 176 0 wide a b = b % md wide := by
  cases wide
  · rfl
  · rw [cut_md hb]; rfl

theorem ofInt_toNat32 (x : BitVec 32) : BitVec.ofInt 32 (x.toNat : Int) = x := by
  apply BitVec.eq_of_toNat_eq
  rw [BitVec.toNat_ofInt]
  have := x.isLt
  omega
theorem ofInt_toNat64 (x : BitVec 64) : BitVec.ofInt 64 (x.toNat : Int) = x := by
  apply BitVec.eq_of_toNat_eq
  rw [BitVec.toNat_ofInt]
  have := x.isLt
  omega
theorem toNat_ofInt32 (a : Int) : ((BitVec.ofInt 32 a).toNat : Int) = a % 4294967296 := by
  rw [BitVec.toNat_ofInt]; omega
theorem toNat_ofInt64 (a : Int) : ((BitVec.ofInt 64 a).toNat : Int) = a % 18446744073709551616 := by
  rw [BitVec.toNat_ofInt]; omega

theorem b1 (wide : Bool) {a b : Int} (ha : W64 a) (hb : W64 b) : (val 0 0 wide (val 80 0 wide a b) (val 160 0 wide a b) != val 64 0 wide a b) = false := by
  have key : val 0 0 wide (val 80 0 wide a b) (val 160 0 wide a b) = val 64 0 wide a b := by
    rw [v_add, v_and wide ha hb, v_xor wide ha hb, v_or wide ha hb]
    cases wide
    · show (bits .and .u32 _ _ + bits .xor .u32 _ _) % 4294967296 = bits .or .u32 _ _
      rw [bits32, bits32, bits32]
      simp only
      rw [← and_add_xor, BitVec.toNat_add]
      omega
    · show (bits .and .u64 _ _ + bits .xor .u64 _ _) % 18446744073709551616 = bits .or .u64 _ _
      rw [bits64, bits64, bits64]
      simp only
      rw [← and_add_xor, BitVec.toNat_add]
      omega
  rw [key]; simp

theorem b2 (wide : Bool) {a b : Int} (ha : W64 a) (hb : W64 b) : (val 160 0 wide (val 160 0 wide a b) b != val 176 0 wide 0 a) = false := by
  have key : val 160 0 wide (val 160 0 wide a b) b = val 176 0 wide 0 a := by
    rw [v_xor wide (val_w64 ha hb) hb, v_xor wide ha hb, v_mov wide ha]
    cases wide
    · show bits .xor .u32 (bits .xor .u32 (a % 4294967296) (b % 4294967296) % 4294967296) (b % 4294967296) = a % 4294967296
      rw [Int.emod_eq_of_lt bits_bd32.1 bits_bd32.2, bits32, bits32]
      simp only
      rw [ofInt_toNat32, xor_xor, toNat_ofInt32, mm]
    · show bits .xor .u64 (bits .xor .u64 (a % 18446744073709551616) (b % 18446744073709551616) % 18446744073709551616) (b % 18446744073709551616) = a % 18446744073709551616
      rw [Int.emod_eq_of_lt bits_bd64.1 bits_bd64.2, bits64, bits64]
      simp only
      rw [ofInt_toNat64, xor_xor, toNat_ofInt64, mm]
  rw [key]; simp

/-- To the left, and back: the low bits are left. -/
theorem shift_back (n k : Nat) (hk : k ≤ n) (a : Int) (ha : 0 ≤ a) : a * 2 ^ k % 2 ^ n / 2 ^ k = a % 2 ^ (n - k) := by
  obtain ⟨m, rfl⟩ := Int.eq_ofNat_of_zero_le ha
  have e : (2 : Nat) ^ n = 2 ^ (n - k) * 2 ^ k := by rw [← Nat.pow_add]; congr 1; omega
  have h : m * 2 ^ k % 2 ^ n / 2 ^ k = m % 2 ^ (n - k) := by
    rw [e, Nat.mul_mod_mul_right, Nat.mul_div_cancel _ (Nat.two_pow_pos k)]
  exact_mod_cast h

theorem mask_div (n k : Nat) (hk : k ≤ n) : (2 ^ n - 1) / 2 ^ k = 2 ^ (n - k) - 1 := by
  have e : (2 : Nat) ^ n = 2 ^ k * 2 ^ (n - k) := by rw [← Nat.pow_add]; congr 1; omega
  have h1 := Nat.two_pow_pos k
  have h2 := Nat.two_pow_pos (n - k)
  have h3 : 2 ^ n - 1 = 2 ^ k * (2 ^ (n - k) - 1) + (2 ^ k - 1) := by
    rw [e, Nat.mul_sub, Nat.mul_one]
    have : 2 ^ k ≤ 2 ^ k * 2 ^ (n - k) := Nat.le_mul_of_pos_right _ h2
    omega
  rw [h3, Nat.mul_add_div h1, Nat.div_eq_of_lt (by omega), Nat.add_zero]

theorem and_mask (a : Int) (k n : Nat) (hk : k ≤ n) (hn : n ≤ 64) (ha : W64 a) (M : Int) (hM : M = (2 ^ n - 1 : Nat)) : bits .and .u64 a (M / 2 ^ k) = a % 2 ^ (n - k) := by
  obtain ⟨ha1, ha2⟩ := ha
  obtain ⟨m, rfl⟩ := Int.eq_ofNat_of_zero_le ha1
  have e1 : M / 2 ^ k = ((2 ^ (n - k) - 1 : Nat) : Int) := by
    rw [hM, ← mask_div n k hk]; exact_mod_cast rfl
  have hb : 2 ^ (n - k) ≤ 2 ^ 64 := Nat.pow_le_pow_right (by decide) (by omega)
  have h2 := Nat.two_pow_pos (n - k)
  rw [e1, and_u64 _ _ (by omega) (by omega), and_low]
  exact_mod_cast rfl

theorem b3t {a s : Int} (ha : W64 a) (hs : W64 s) : (val 112 0 true (val 96 0 true a s) s == bits .and .u64 a (18446744073709551615 / 2 ^ (s % 64).toNat)) = true := by
  have e : val 112 0 true (val 96 0 true a s) s = a * 2 ^ (s % 64).toNat % 18446744073709551616 / 2 ^ (s % 64).toNat := rfl
  have h1 := shift_back 64 (s % 64).toNat (by omega) a ha.1
  have h2 := and_mask a (s % 64).toNat 64 (by omega) (by omega) ha 18446744073709551615 rfl
  rw [e, h2]
  simpa using h1
theorem b3f {a s : Int} (ha : W64 a) (hs : W64 s) : (val 112 0 false (val 96 0 false a s) s == bits .and .u64 a (4294967295 / 2 ^ (s % 32).toNat)) = true := by
  have hs1 := hs.1
  have e : val 112 0 false (val 96 0 false a s) s = a % 4294967296 * 2 ^ (s % 4294967296 % 32).toNat % 4294967296 % 4294967296 / 2 ^ (s % 4294967296 % 32).toNat := rfl
  have e2 : s % 4294967296 % 32 = s % 32 := by omega
  have h1 := shift_back 32 (s % 32).toNat (by omega) a ha.1
  have h2 := and_mask a (s % 32).toNat 32 (by omega) (by omega) ha 4294967295 rfl
  rw [e, e2, mm, mul_l, h2]
  simpa using h1
theorem b4 (wide : Bool) {a : Int} (ha : W64 a) : (val 96 0 wide a 0 == val 176 0 wide 0 a) = true := by
  rw [v_mov wide ha]
  cases wide
  · have e : val 96 0 false a 0 = a % 4294967296 * 1 % 4294967296 := rfl
    rw [e, Int.mul_one, mm]; simp [md]
  · have e : val 96 0 true a 0 = a * 1 % 18446744073709551616 := rfl
    rw [e, Int.mul_one]; simp [md]
theorem b5 (wide : Bool) {a s : Int} (hs : W64 s) : (val 192 0 wide a ((s + 64) % 18446744073709551616) == val 192 0 wide a s) = true := by
  have hs1 := hs.1
  cases wide
  · have e : ∀ t : Int, val 192 0 false a t = wrap32 (a % 4294967296) / 2 ^ (t % 4294967296 % 32).toNat % 4294967296 := fun _ => rfl
    have e2 : (s + 64) % 18446744073709551616 % 4294967296 % 32 = s % 4294967296 % 32 := by omega
    rw [e, e, e2]; simp
  · have e : ∀ t : Int, val 192 0 true a t = wrap64 a / 2 ^ (t % 64).toNat % 18446744073709551616 := fun _ => rfl
    have e2 : (s + 64) % 18446744073709551616 % 64 = s % 64 := by omega
    rw [e, e, e2]; simp
end Go.Proofs.Ytlhegejfaihgmaa.Sp
