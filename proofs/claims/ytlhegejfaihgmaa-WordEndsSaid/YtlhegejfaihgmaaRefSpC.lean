/-
  Plain: the reference's values are the program's, operation by operation. No program.
-/
import Derived.Test.YtlhegejfaihgmaaRefSpB
namespace Go.Proofs.Ytlhegejfaihgmaa.Sp
open Go.RowKit
set_option linter.unusedVariables false
theorem fin {op off : Int} {wide : Bool} {a b x : Int} (h : aluW op off wide a b = some x) : Ending.returned (.tuple #[.int .u64 x, .bool true]) = Ending.returned (res .u64 (aluW op off wide a b)) := by rw [h]; rfl

theorem tm {x : Int} (h : 0 ≤ x) : x.tmod 4294967296 = x % 4294967296 := Int.tmod_eq_emod_of_nonneg h
theorem wt (x : Int) : (IntKind.u64.wrap x).tmod 4294967296 = x % 4294967296 := by rw [IntKind.wrap_u64, tm (by omega)]; omega
theorem A0 (a : Int) : 0 ≤ a % 4294967296 ∧ a % 4294967296 < 4294967296 := by omega
theorem k32 {b : Int} : b % 4294967296 % 32 = b % 32 := by omega

theorem f0_0 (a b : Int) : aluW 0 0 false a b = some ((a % 4294967296 + b % 4294967296) % 4294967296) := rfl
theorem f16_0 (a b : Int) : aluW 16 0 false a b = some ((IntKind.u64.wrap (a % 4294967296 - b % 4294967296)).tmod 4294967296) := by rw [wt]; rfl
theorem f32_0 (a b : Int) : aluW 32 0 false a b = some (a % 4294967296 * (b % 4294967296) % 18446744073709551616 % 4294967296) := by
  have e : a % 4294967296 * (b % 4294967296) % 18446744073709551616 % 4294967296 = a % 4294967296 * (b % 4294967296) % 4294967296 := Int.emod_emod_of_dvd _ (by decide)
  rw [e]; rfl
theorem f48_0 (a b : Int) : aluW 48 0 false a b = some ((a % 4294967296 / (b % 4294967296)).tmod 4294967296) := by
  have h := A0 a
  have h2 := A0 b
  rw [tm (Int.ediv_nonneg h.1 h2.1), ← Int.tdiv_eq_ediv_of_nonneg h.1]; rfl
theorem sm32 (x : Int) : wrap32 x % 4294967296 = x % 4294967296 := sg_mod false x
theorem sm64 (x : Int) : wrap64 x % 18446744073709551616 = x % 18446744073709551616 := sg_mod true x
theorem f48_1 (a b : Int) : aluW 48 1 false a b = some ((wrap32 (a % 4294967296)).tdiv (wrap32 (b % 4294967296)) % 4294967296 % 4294967296) := by
  have e : aluW 48 1 false a b = some (wrap32 ((wrap32 (a % 4294967296)).tdiv (wrap32 (b % 4294967296))) % 4294967296) := rfl
  rw [e, sm32, mm]
theorem f144_0 (a b : Int) : aluW 144 0 false a b = some ((a % 4294967296 % (b % 4294967296)).tmod 4294967296) := by
  have h := A0 a
  have h2 := A0 b
  have h3 := emod_bd h.1 h.2 h2.1 h2.2
  rw [tm h3.1, Int.emod_eq_of_lt h3.1 h3.2]; rfl
theorem f144_1 (a b : Int) : aluW 144 1 false a b = some ((wrap32 (a % 4294967296)).tmod (wrap32 (b % 4294967296)) % 4294967296 % 4294967296) := by rw [mm]; rfl
theorem cast_u32 (a : Int) : ∃ n : Nat, a % 4294967296 = (n : Int) ∧ n < 4294967296 := ⟨(a % 4294967296).toNat, by omega, by omega⟩
theorem f64_0 (a b : Int) : aluW 64 0 false a b = some ((bits .or .u64 (a % 4294967296) (b % 4294967296)).tmod 4294967296) := by
  have e : aluW 64 0 false a b = some (bits .or .u32 (a % 4294967296) (b % 4294967296)) := rfl
  rw [e]
  obtain ⟨n, hn, h1⟩ := cast_u32 a
  obtain ⟨m, hm, h2⟩ := cast_u32 b
  have hl : n ||| m < 2 ^ 32 := Nat.or_lt_two_pow h1 h2
  rw [hn, hm, or_u32 _ _ h1 h2, or_u64 _ _ (by omega) (by omega), tm (by omega)]
  congr 1
  omega
theorem f80_0 (a b : Int) : aluW 80 0 false a b = some ((bits .and .u64 (a % 4294967296) (b % 4294967296)).tmod 4294967296) := by
  have e : aluW 80 0 false a b = some (bits .and .u32 (a % 4294967296) (b % 4294967296)) := rfl
  rw [e]
  obtain ⟨n, hn, h1⟩ := cast_u32 a
  obtain ⟨m, hm, h2⟩ := cast_u32 b
  have hl : n &&& m < 2 ^ 32 := Nat.and_lt_two_pow _ h2
  rw [hn, hm, and_u32 _ _ h1 h2, and_u64 _ _ (by omega) (by omega), tm (by omega)]
  congr 1
  omega
theorem xor_u32 (n m : Nat) (hn : n < 4294967296) (hm : m < 4294967296) : bits .xor .u32 (n : Int) (m : Int) = ((n ^^^ m : Nat) : Int) := by
  rw [u32_xor _ _ (by omega) (by omega) (by omega) (by omega), Int.toNat_natCast, Int.toNat_natCast]
theorem xor_u64 (n m : Nat) (hn : n < 18446744073709551616) (hm : m < 18446744073709551616) : bits .xor .u64 (n : Int) (m : Int) = ((n ^^^ m : Nat) : Int) := by
  rw [u64_xor _ _ (by omega) (by omega) (by omega) (by omega), Int.toNat_natCast, Int.toNat_natCast]
theorem f160_0 (a b : Int) : aluW 160 0 false a b = some ((bits .xor .u64 (a % 4294967296) (b % 4294967296)).tmod 4294967296) := by
  have e : aluW 160 0 false a b = some (bits .xor .u32 (a % 4294967296) (b % 4294967296)) := rfl
  rw [e]
  obtain ⟨n, hn, h1⟩ := cast_u32 a
  obtain ⟨m, hm, h2⟩ := cast_u32 b
  have hl : n ^^^ m < 2 ^ 32 := Nat.xor_lt_two_pow h1 h2
  rw [hn, hm, xor_u32 _ _ h1 h2, xor_u64 _ _ (by omega) (by omega), tm (by omega)]
  congr 1
  omega
theorem f96_0 (a b : Int) : aluW 96 0 false a b = some ((IntKind.u64.wrap (a % 4294967296 * 2 ^ (b % 32).toNat)).tmod 4294967296) := by
  have e : aluW 96 0 false a b = some (a % 4294967296 * 2 ^ (b % 4294967296 % 32).toNat % 4294967296) := rfl
  rw [e, k32, wt]
theorem f112_0 (a b : Int) : aluW 112 0 false a b = some ((a % 4294967296 / 2 ^ (b % 32).toNat).tmod 4294967296) := by
  have e : aluW 112 0 false a b = some (a % 4294967296 / 2 ^ (b % 4294967296 % 32).toNat) := rfl
  have h := A0 a
  have h3 := div_bd h.1 h.2 (b % 32).toNat
  rw [e, k32, tm h3.1, Int.emod_eq_of_lt h3.1 h3.2]
theorem f192_0 (a b : Int) : aluW 192 0 false a b = some ((ash32 (a % 4294967296) (b % 32).toNat).tmod 4294967296) := by
  have e : aluW 192 0 false a b = some (ash32 (a % 4294967296) (b % 4294967296 % 32).toNat) := rfl
  have h3 := ash32_bd (a % 4294967296) (b % 32).toNat
  rw [e, k32, tm h3.1, Int.emod_eq_of_lt h3.1 h3.2]
theorem f128_0 (a b : Int) : aluW 128 0 false a b = some ((IntKind.u64.wrap (-(a % 4294967296))).tmod 4294967296) := by rw [wt]; rfl
theorem f176_0 (a b : Int) : aluW 176 0 false a b = some (b % 4294967296 % 4294967296) := by rw [mm]; rfl
theorem and1 {y : Int} {x : Bool} (h0 : 0 ≤ y) (h1 : y < 18446744073709551616) (h : (bits .and .u64 y 1 == 1) = x) : decide (y % 2 = 1) = x := by
  rw [and_one ⟨h0, h1⟩] at h
  rw [← h, Bool.eq_iff_iff]
  simp
theorem i8w (x : Int) : IntKind.i8.wrap x = (x + 128) % 256 - 128 := by
  simp [IntKind.wrap, IntKind.bits, IntKind.signed]
  split <;> omega
theorem i16w (x : Int) : IntKind.i16.wrap x = (x + 32768) % 65536 - 32768 := by
  simp [IntKind.wrap, IntKind.bits, IntKind.signed]
  split <;> omega
theorem f176_8y (a b : Int) (h : (bits .and .u64 (b % 256 / 128) 1 == 1) = true) : aluW 176 8 false a b = some ((IntKind.u64.wrap (b % 256 - 256)).tmod 4294967296) := by
  have h1 := of_decide_eq_true (and1 (by omega) (by omega) h)
  have e : aluW 176 8 false a b = some (IntKind.i8.wrap (b % 4294967296) % 4294967296) := rfl
  rw [e, wt, i8w]; congr 1; omega
theorem f176_8n (a b : Int) (h : (bits .and .u64 (b % 256 / 128) 1 == 1) = false) : aluW 176 8 false a b = some (b % 256 % 4294967296) := by
  have h1 := of_decide_eq_false (and1 (by omega) (by omega) h)
  have e : aluW 176 8 false a b = some (IntKind.i8.wrap (b % 4294967296) % 4294967296) := rfl
  rw [e, i8w]; congr 1; omega
theorem f176_16y (a b : Int) (h : (bits .and .u64 (b % 65536 / 32768) 1 == 1) = true) : aluW 176 16 false a b = some ((IntKind.u64.wrap (b % 65536 - 65536)).tmod 4294967296) := by
  have h1 := of_decide_eq_true (and1 (by omega) (by omega) h)
  have e : aluW 176 16 false a b = some (IntKind.i16.wrap (b % 4294967296) % 4294967296) := rfl
  rw [e, wt, i16w]; congr 1; omega
theorem f176_16n (a b : Int) (h : (bits .and .u64 (b % 65536 / 32768) 1 == 1) = false) : aluW 176 16 false a b = some (b % 65536 % 4294967296) := by
  have h1 := of_decide_eq_false (and1 (by omega) (by omega) h)
  have e : aluW 176 16 false a b = some (IntKind.i16.wrap (b % 4294967296) % 4294967296) := rfl
  rw [e, i16w]; congr 1; omega

theorem t0_0 (a b : Int) : aluW 0 0 true a b = some (IntKind.u64.wrap (a + b)) := by rw [IntKind.wrap_u64]; rfl
theorem t16_0 (a b : Int) : aluW 16 0 true a b = some (IntKind.u64.wrap (a - b)) := by rw [IntKind.wrap_u64]; rfl
theorem t32_0 (a b : Int) : aluW 32 0 true a b = some (a * b % 18446744073709551616) := rfl
theorem t48_0 {a b : Int} (ha : W64 a) (hb : W64 b) : aluW 48 0 true a b = some (a / b) := by
  have e : aluW 48 0 true a b = some (a.tdiv b % 18446744073709551616) := rfl
  have h1 : 0 ≤ a.tdiv b := Int.tdiv_nonneg ha.1 hb.1
  have h2 : a.tdiv b ≤ a := Int.tdiv_le_self b ha.1
  have h3 := ha.2
  rw [e, Int.emod_eq_of_lt h1 (by omega), Int.tdiv_eq_ediv_of_nonneg ha.1]
theorem t48_1 (a b : Int) : aluW 48 1 true a b = some ((wrap64 a).tdiv (wrap64 b) % 18446744073709551616) := by
  have e : aluW 48 1 true a b = some (wrap64 ((wrap64 a).tdiv (wrap64 b)) % 18446744073709551616) := rfl
  rw [e, sm64]
theorem t144_0 (a b : Int) : aluW 144 0 true a b = some (a % b) := rfl
theorem t144_1 (a b : Int) : aluW 144 1 true a b = some ((wrap64 a).tmod (wrap64 b) % 18446744073709551616) := rfl
theorem t64_0 (a b : Int) : aluW 64 0 true a b = some (bits .or .u64 a b) := rfl
theorem t80_0 (a b : Int) : aluW 80 0 true a b = some (bits .and .u64 a b) := rfl
theorem t160_0 (a b : Int) : aluW 160 0 true a b = some (bits .xor .u64 a b) := rfl
theorem t96_0 (a b : Int) : aluW 96 0 true a b = some (IntKind.u64.wrap (a * 2 ^ (b % 64).toNat)) := by rw [IntKind.wrap_u64]; rfl
theorem t112_0 (a b : Int) : aluW 112 0 true a b = some (a / 2 ^ (b % 64).toNat) := rfl
theorem t192_0 (a b : Int) : aluW 192 0 true a b = some (ash64 a (b % 64).toNat) := rfl
theorem t128_0 (a b : Int) : aluW 128 0 true a b = some (IntKind.u64.wrap (-a)) := by rw [IntKind.wrap_u64]; rfl
theorem t176_0 (a b : Int) : aluW 176 0 true a b = some b := rfl
theorem t176_8y (a b : Int) (h : (bits .and .u64 (b % 256 / 128) 1 == 1) = true) : aluW 176 8 true a b = some (IntKind.u64.wrap (b % 256 - 256)) := by
  have h1 := of_decide_eq_true (and1 (by omega) (by omega) h)
  have e : aluW 176 8 true a b = some (IntKind.i8.wrap b % 18446744073709551616) := rfl
  rw [e, IntKind.wrap_u64, i8w]; congr 1; omega
theorem t176_8n (a b : Int) (h : (bits .and .u64 (b % 256 / 128) 1 == 1) = false) : aluW 176 8 true a b = some (b % 256) := by
  have h1 := of_decide_eq_false (and1 (by omega) (by omega) h)
  have e : aluW 176 8 true a b = some (IntKind.i8.wrap b % 18446744073709551616) := rfl
  rw [e, i8w]; congr 1; omega
theorem t176_16y (a b : Int) (h : (bits .and .u64 (b % 65536 / 32768) 1 == 1) = true) : aluW 176 16 true a b = some (IntKind.u64.wrap (b % 65536 - 65536)) := by
  have h1 := of_decide_eq_true (and1 (by omega) (by omega) h)
  have e : aluW 176 16 true a b = some (IntKind.i16.wrap b % 18446744073709551616) := rfl
  rw [e, IntKind.wrap_u64, i16w]; congr 1; omega
theorem t176_16n (a b : Int) (h : (bits .and .u64 (b % 65536 / 32768) 1 == 1) = false) : aluW 176 16 true a b = some (b % 65536) := by
  have h1 := of_decide_eq_false (and1 (by omega) (by omega) h)
  have e : aluW 176 16 true a b = some (IntKind.i16.wrap b % 18446744073709551616) := rfl
  rw [e, i16w]; congr 1; omega
theorem t176_32y (a b : Int) (h : (bits .and .u64 (b % 4294967296 / 2147483648) 1 == 1) = true) : aluW 176 32 true a b = some (IntKind.u64.wrap (b % 4294967296 - 4294967296)) := by
  have h1 := of_decide_eq_true (and1 (by omega) (by omega) h)
  have e : aluW 176 32 true a b = some (wrap32 b % 18446744073709551616) := rfl
  rw [e, IntKind.wrap_u64]; unfold wrap32; congr 1; omega
theorem t176_32n (a b : Int) (h : (bits .and .u64 (b % 4294967296 / 2147483648) 1 == 1) = false) : aluW 176 32 true a b = some (b % 4294967296) := by
  have h1 := of_decide_eq_false (and1 (by omega) (by omega) h)
  have e : aluW 176 32 true a b = some (wrap32 b % 18446744073709551616) := rfl
  rw [e]; unfold wrap32; congr 1; omega
theorem dz (wide : Bool) {off a b : Int} (ho : off = 0 ∨ off = 1) (hb : b % md wide = 0) (hb2 : wide = true → b = 0) : aluW 48 off wide a b = some 0 := by
  cases wide
  · have hb' : b % 4294967296 = 0 := hb
    rcases ho with rfl | rfl
    · have e : aluW 48 0 false a b = some ((a % 4294967296).tdiv (b % 4294967296) % 4294967296) := rfl
      rw [e, hb']; simp
    · have e : aluW 48 1 false a b = some (wrap32 ((wrap32 (a % 4294967296)).tdiv (wrap32 (b % 4294967296))) % 4294967296) := rfl
      rw [e, hb', w32]; simp [w32]
  · have h0 := hb2 rfl
    subst h0
    rcases ho with rfl | rfl
    · have e : aluW 48 0 true a 0 = some (a.tdiv 0 % 18446744073709551616) := rfl
      rw [e]; simp
    · have e : aluW 48 1 true a 0 = some (wrap64 ((wrap64 a).tdiv (wrap64 0)) % 18446744073709551616) := rfl
      rw [e, w64]; simp [w64]
theorem mzf {off a b : Int} (ho : off = 0 ∨ off = 1) (hb : b % 4294967296 = 0) : aluW 144 off false a b = some (a % 4294967296 % 4294967296) := by
  rcases ho with rfl | rfl
  · have e : aluW 144 0 false a b = some (a % 4294967296 % (b % 4294967296)) := rfl
    rw [e, hb, mm]; simp
  · have e : aluW 144 1 false a b = some ((wrap32 (a % 4294967296)).tmod (wrap32 (b % 4294967296)) % 4294967296) := rfl
    rw [e, hb, w32, mm, Int.tmod_zero, sm32, mm]
theorem mzt {off a : Int} (ho : off = 0 ∨ off = 1) (ha : W64 a) : aluW 144 off true a 0 = some a := by
  rcases ho with rfl | rfl
  · have e : aluW 144 0 true a 0 = some (a % 0) := rfl
    rw [e]; simp
  · have e : aluW 144 1 true a 0 = some ((wrap64 a).tmod (wrap64 0) % 18446744073709551616) := rfl
    rw [e, w64, Int.tmod_zero, sm64, cut64 ha]
end Go.Proofs.Ytlhegejfaihgmaa.Sp
