/-
  Plain: what the reference's helpers come to. No program.
-/
import Derived.Test.YtlhegejfaihgmaaWordBitsSp
namespace Go.Proofs.Ytlhegejfaihgmaa.Sp
open Go.RowKit
set_option linter.unusedVariables false

theorem and_one {y : Int} (h : W64 y) : bits .and .u64 y 1 = y % 2 := by
  obtain ⟨h1, h2⟩ := h
  obtain ⟨n, rfl⟩ := Int.eq_ofNat_of_zero_le h1
  have e : bits .and .u64 (n : Int) 1 = ((n &&& 1 : Nat) : Int) := and_u64 n 1 (by omega) (by omega)
  rw [e]
  have h3 := and_low n 1
  have h4 : (2 : Nat) ^ 1 - 1 = 1 := rfl
  rw [h4] at h3
  rw [h3]
  omega

theorem w64_div {x : Int} (h : W64 x) (k : Nat) : W64 (x / 2 ^ k) := div_bd h.1 h.2 k

theorem neg32 {n : Int} (h0 : 0 ≤ n) (h1 : n < 4294967296) : (bits .and .u64 (n / 2147483648) 1 == 1) = decide (wrap32 n < 0) := by
  rw [and_one ⟨by omega, by omega⟩]
  unfold wrap32
  rw [Bool.eq_iff_iff]
  simp only [beq_iff_eq, decide_eq_true_eq]
  omega
theorem neg64 {n : Int} (h : W64 n) : (bits .and .u64 (n / 9223372036854775808) 1 == 1) = decide (wrap64 n < 0) := by
  obtain ⟨h0, h1⟩ := h
  rw [and_one ⟨by omega, by omega⟩]
  unfold wrap64
  rw [Bool.eq_iff_iff]
  simp only [beq_iff_eq, decide_eq_true_eq]
  omega

theorem abs32_neg {n : Int} (h0 : 0 ≤ n) (h1 : n < 4294967296) (h : wrap32 n < 0) : (IntKind.u64.wrap (-n)).tmod 4294967296 = ((wrap32 n).natAbs : Int) := by
  rw [IntKind.wrap_u64, Int.tmod_eq_emod_of_nonneg (by omega)]
  unfold wrap32 at *
  omega
theorem abs32_pos {n : Int} (h0 : 0 ≤ n) (h1 : n < 4294967296) (h : ¬ wrap32 n < 0) : n = ((wrap32 n).natAbs : Int) := by
  unfold wrap32 at *
  omega
theorem abs64_neg {n : Int} (hn : W64 n) (h : wrap64 n < 0) : IntKind.u64.wrap (-n) = ((wrap64 n).natAbs : Int) := by
  obtain ⟨h0, h1⟩ := hn
  rw [IntKind.wrap_u64]
  unfold wrap64 at *
  omega
theorem abs64_pos {n : Int} (hn : W64 n) (h : ¬ wrap64 n < 0) : n = ((wrap64 n).natAbs : Int) := by
  obtain ⟨h0, h1⟩ := hn
  unfold wrap64 at *
  omega
theorem abs32_le {n : Int} : ((wrap32 n).natAbs : Int) ≤ 2147483648 := by unfold wrap32; omega
theorem abs64_le {n : Int} : ((wrap64 n).natAbs : Int) ≤ 9223372036854775808 := by unfold wrap64; omega
theorem abs32_ne {n : Int} (h0 : 0 < n) (h1 : n < 4294967296) : 0 < ((wrap32 n).natAbs : Int) := by unfold wrap32; omega
theorem abs64_ne {n : Int} (hn : W64 n) (h : 0 < n) : 0 < ((wrap64 n).natAbs : Int) := by
  obtain ⟨h0, h1⟩ := hn
  unfold wrap64; omega

/-- A quotient of numbers with signs, by those without. -/
theorem tdiv_same {x y : Int} (h : decide (x < 0) = decide (y < 0)) : x.tdiv y = (x.natAbs : Int) / (y.natAbs : Int) := by
  by_cases hx : x < 0
  · have hy : y < 0 := by simpa [hx] using h
    obtain ⟨a, ha⟩ : ∃ a : Nat, x = -(a : Int) := ⟨x.natAbs, by omega⟩
    obtain ⟨b, hb⟩ : ∃ b : Nat, y = -(b : Int) := ⟨y.natAbs, by omega⟩
    subst ha hb
    rw [Int.neg_tdiv, Int.tdiv_neg, Int.neg_neg, Int.natAbs_neg, Int.natAbs_neg, Int.natAbs_natCast, Int.natAbs_natCast]
    rfl
  · have hy : ¬ y < 0 := by simpa [hx] using h
    obtain ⟨a, rfl⟩ := Int.eq_ofNat_of_zero_le (show 0 ≤ x by omega)
    obtain ⟨b, rfl⟩ := Int.eq_ofNat_of_zero_le (show 0 ≤ y by omega)
    rfl
theorem tdiv_diff {x y : Int} (h : decide (x < 0) ≠ decide (y < 0)) : x.tdiv y = -((x.natAbs : Int) / (y.natAbs : Int)) := by
  by_cases hx : x < 0
  · have hy : ¬ y < 0 := fun hy => h (by simp [hx, hy])
    obtain ⟨a, ha⟩ : ∃ a : Nat, x = -(a : Int) := ⟨x.natAbs, by omega⟩
    obtain ⟨b, rfl⟩ := Int.eq_ofNat_of_zero_le (show 0 ≤ y by omega)
    subst ha
    rw [Int.neg_tdiv, Int.natAbs_neg, Int.natAbs_natCast, Int.natAbs_natCast]
    rfl
  · have hy : y < 0 := Decidable.byContradiction fun hy => h (by simp [hx, hy])
    obtain ⟨a, rfl⟩ := Int.eq_ofNat_of_zero_le (show 0 ≤ x by omega)
    obtain ⟨b, hb⟩ : ∃ b : Nat, y = -(b : Int) := ⟨y.natAbs, by omega⟩
    subst hb
    rw [Int.tdiv_neg, Int.natAbs_neg, Int.natAbs_natCast, Int.natAbs_natCast]
    rfl
theorem tmod_neg {x y : Int} (h : x < 0) : x.tmod y = -((x.natAbs : Int) % (y.natAbs : Int)) := by
  obtain ⟨a, ha⟩ : ∃ a : Nat, x = -(a : Int) := ⟨x.natAbs, by omega⟩
  subst ha
  rw [Int.neg_tmod, Int.natAbs_neg, Int.natAbs_natCast]
  rcases Int.natAbs_eq y with hy | hy
  · rw [hy, Int.natAbs_natCast]; rfl
  · rw [hy, Int.tmod_neg, Int.natAbs_neg, Int.natAbs_natCast]; rfl
theorem tmod_pos {x y : Int} (h : ¬ x < 0) : x.tmod y = (x.natAbs : Int) % (y.natAbs : Int) := by
  obtain ⟨a, rfl⟩ := Int.eq_ofNat_of_zero_le (show 0 ≤ x by omega)
  rw [Int.natAbs_natCast]
  rcases Int.natAbs_eq y with hy | hy
  · rw [hy, Int.natAbs_natCast]; rfl
  · rw [hy, Int.tmod_neg, Int.natAbs_neg, Int.natAbs_natCast]; rfl

/-- A product, bit by bit. -/
def part (a b : Int) (k : Nat) : Int := a * (b % 2 ^ k) % 18446744073709551616
theorem part_0 (a b : Int) : part a b 0 = 0 := by unfold part; simp
theorem part_64 {a b : Int} (hb : W64 b) : part a b 64 = a * b % 18446744073709551616 := by
  unfold part
  have e : (2 : Int) ^ 64 = 18446744073709551616 := rfl
  rw [e, cut64 hb]
theorem pow_succ_mod (b : Int) (k : Nat) : b % 2 ^ (k + 1) = b % 2 ^ k + 2 ^ k * (b / 2 ^ k % 2) := by
  have e : (2 : Int) ^ (k + 1) = 2 ^ k * 2 := Int.pow_succ 2 k
  rw [e]
  have hp : (0 : Int) < 2 ^ k := Int.pow_pos (by decide)
  have h1 := Int.emod_add_mul_ediv b (2 ^ k)
  have h2 := Int.emod_add_mul_ediv (b / 2 ^ k) 2
  have h3 : b = 2 ^ k * 2 * (b / 2 ^ k / 2) + (b % 2 ^ k + 2 ^ k * (b / 2 ^ k % 2)) := by
    calc b = b % 2 ^ k + 2 ^ k * (b / 2 ^ k) := h1.symm
      _ = b % 2 ^ k + 2 ^ k * (b / 2 ^ k % 2 + 2 * (b / 2 ^ k / 2)) := by rw [h2]
      _ = _ := by rw [Int.mul_add, Int.mul_assoc]; omega
  have hlo := Int.emod_nonneg b (show (2 : Int) ^ k ≠ 0 by omega)
  have hhi := Int.emod_lt_of_pos b hp
  have hb2 : b / 2 ^ k % 2 = 0 ∨ b / 2 ^ k % 2 = 1 := by omega
  have hr : 0 ≤ b % 2 ^ k + 2 ^ k * (b / 2 ^ k % 2) ∧ b % 2 ^ k + 2 ^ k * (b / 2 ^ k % 2) < 2 ^ k * 2 := by
    rcases hb2 with h | h <;> rw [h] <;> omega
  conv => lhs; rw [h3]
  rw [Int.mul_assoc, ← Int.mul_assoc, Int.add_comm, Int.add_mul_emod_self_left]
  exact Int.emod_eq_of_lt hr.1 hr.2
theorem part_yes {a b : Int} (hb : W64 b) (k : Nat) (h : (bits .and .u64 (b / 2 ^ k) 1 == 1) = true) : IntKind.u64.wrap (part a b k + IntKind.u64.wrap (a * 2 ^ k)) = part a b (k + 1) := by
  rw [and_one (w64_div hb k), beq_iff_eq] at h
  rw [IntKind.wrap_u64, IntKind.wrap_u64]
  unfold part
  rw [pow_succ_mod, h, Int.mul_one, add_l, add_r, Int.mul_add]
theorem part_no {a b : Int} (hb : W64 b) (k : Nat) (h : (bits .and .u64 (b / 2 ^ k) 1 == 1) = false) : part a b k = part a b (k + 1) := by
  rw [and_one (w64_div hb k), beq_eq_false_iff_ne] at h
  have h0 : b / 2 ^ k % 2 = 0 := by omega
  unfold part
  rw [pow_succ_mod, h0, Int.mul_zero, Int.add_zero]
theorem part_w64 {a b : Int} (k : Nat) : W64 (part a b k) := mod_bd _ (by decide)

/-- A shift to the right with a sign, one bit at a time. -/
def ash32 (a : Int) (k : Nat) : Int := wrap32 a / 2 ^ k % 4294967296
def ash64 (a : Int) (k : Nat) : Int := wrap64 a / 2 ^ k % 18446744073709551616
theorem div_succ (x : Int) (k : Nat) : x / 2 ^ (k + 1) = x / 2 ^ k / 2 := by
  have e : (2 : Int) ^ (k + 1) = 2 ^ k * 2 := Int.pow_succ 2 k
  have hp : (0 : Int) ≤ 2 ^ k := Int.le_of_lt (Int.pow_pos (by decide))
  rw [e, Int.ediv_ediv_of_nonneg hp]
theorem div_rng {x L : Int} (hL : 0 ≤ L) (h : -L ≤ x ∧ x < L) (k : Nat) : -L ≤ x / 2 ^ k ∧ x / 2 ^ k < L := by
  have hp : (0 : Int) < 2 ^ k := Int.pow_pos (by decide)
  have hp1 : (1 : Int) ≤ 2 ^ k := hp
  constructor
  · refine (Int.le_ediv_iff_mul_le hp).2 ?_
    have : -L * 2 ^ k ≤ -L * 1 := by
      rw [Int.neg_mul, Int.neg_mul]
      have := Int.mul_le_mul_of_nonneg_left hp1 hL
      omega
    omega
  · refine (Int.ediv_lt_iff_lt_mul hp).2 ?_
    by_cases h0 : L = 0
    · subst h0; omega
    · have : L * 1 ≤ L * 2 ^ k := Int.mul_le_mul_of_nonneg_left hp1 hL
      omega
theorem ash32_0 {a : Int} (h0 : 0 ≤ a) (h1 : a < 4294967296) : ash32 a 0 = a := by
  unfold ash32 wrap32
  have e : (2 : Int) ^ 0 = 1 := rfl
  rw [e]; omega
theorem ash64_0 {a : Int} (h : W64 a) : ash64 a 0 = a := by
  obtain ⟨h0, h1⟩ := h
  unfold ash64 wrap64
  have e : (2 : Int) ^ 0 = 1 := rfl
  rw [e]; omega
theorem or_u64_top {p q : Int} (hp : 0 ≤ p) (hp2 : p < 9223372036854775808) (hq : q = 0 ∨ q = 1) : bits .or .u64 p (q * 9223372036854775808) = p + q * 9223372036854775808 := by
  obtain ⟨n, rfl⟩ := Int.eq_ofNat_of_zero_le hp
  obtain ⟨m, hm⟩ : ∃ m : Nat, q = m := ⟨q.toNat, by omega⟩
  subst hm
  have e : (m : Int) * 9223372036854775808 = ((2 ^ 63 * m : Nat) : Int) := by omega
  rw [e, or_u64 _ _ (by omega) (by omega), or_hi 63 m n (by omega)]
  omega
theorem or_u64_mid {p q : Int} (hp : 0 ≤ p) (hp2 : p < 2147483648) (hq : q = 0 ∨ q = 1) : bits .or .u64 p (q * 2147483648) = p + q * 2147483648 := by
  obtain ⟨n, rfl⟩ := Int.eq_ofNat_of_zero_le hp
  obtain ⟨m, hm⟩ : ∃ m : Nat, q = m := ⟨q.toNat, by omega⟩
  subst hm
  have e : (m : Int) * 2147483648 = ((2 ^ 31 * m : Nat) : Int) := by omega
  rw [e, or_u64 _ _ (by omega) (by omega), or_hi 31 m n (by omega)]
  omega
theorem ash32_step (a : Int) (k : Nat) : bits .or .u64 (ash32 a k / 2) (IntKind.u64.wrap (bits .and .u64 (ash32 a k / 2147483648) 1 * 2147483648)) = ash32 a (k + 1) := by
  have hr : -2147483648 ≤ wrap32 a ∧ wrap32 a < 2147483648 := by unfold wrap32; omega
  have hd := div_rng (by decide) hr k
  have hs := div_succ (wrap32 a) k
  unfold ash32
  rw [hs]
  generalize wrap32 a / 2 ^ k = y at *
  obtain ⟨d1, d2⟩ := hd
  rw [and_one ⟨by omega, by omega⟩, IntKind.wrap_u64]
  have e : y % 4294967296 / 2147483648 % 2 * 2147483648 % 18446744073709551616 = y % 4294967296 / 2147483648 % 2 * 2147483648 := by omega
  rw [e, or_u64_mid (by omega) (by omega) (by omega)]
  omega
theorem ash64_step (a : Int) (k : Nat) : bits .or .u64 (ash64 a k / 2) (IntKind.u64.wrap (bits .and .u64 (ash64 a k / 9223372036854775808) 1 * 9223372036854775808)) = ash64 a (k + 1) := by
  have hr : -9223372036854775808 ≤ wrap64 a ∧ wrap64 a < 9223372036854775808 := by unfold wrap64; omega
  have hd := div_rng (by decide) hr k
  have hs := div_succ (wrap64 a) k
  unfold ash64
  rw [hs]
  generalize wrap64 a / 2 ^ k = y at *
  obtain ⟨d1, d2⟩ := hd
  rw [and_one ⟨by omega, by omega⟩, IntKind.wrap_u64]
  have e : y % 18446744073709551616 / 9223372036854775808 % 2 * 9223372036854775808 % 18446744073709551616 = y % 18446744073709551616 / 9223372036854775808 % 2 * 9223372036854775808 := by omega
  rw [e, or_u64_top (by omega) (by omega) (by omega)]
  omega
theorem ash32_bd (a : Int) (k : Nat) : 0 ≤ ash32 a k ∧ ash32 a k < 4294967296 := mod_bd _ (by decide)
theorem ash64_bd (a : Int) (k : Nat) : W64 (ash64 a k) := mod_bd _ (by decide)
end Go.Proofs.Ytlhegejfaihgmaa.Sp
