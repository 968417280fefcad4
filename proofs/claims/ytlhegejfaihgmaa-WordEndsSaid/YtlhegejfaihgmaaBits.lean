/-
  Plain: bytes turned round, by masks and shifts, are the bytes in the other order. No program.
-/
import Derived.WalkKit
namespace Go.Proofs.Ytlhegejfaihgmaa.Sp
open Go.RowKit
set_option linter.unusedVariables false

theorem and_split (k x y : Nat) : x &&& y = 2 ^ k * (x / 2 ^ k &&& y / 2 ^ k) + (x % 2 ^ k &&& y % 2 ^ k) := by
  rw [← Nat.and_div_two_pow, ← Nat.and_mod_two_pow]
  exact (Nat.div_add_mod _ _).symm
theorem or_split (k x y : Nat) : x ||| y = 2 ^ k * (x / 2 ^ k ||| y / 2 ^ k) + (x % 2 ^ k ||| y % 2 ^ k) := by
  rw [← Nat.or_div_two_pow, ← Nat.or_mod_two_pow]
  exact (Nat.div_add_mod _ _).symm
theorem and_low (x k : Nat) : x &&& (2 ^ k - 1) = x % 2 ^ k := Nat.and_two_pow_sub_one_eq_mod x k
theorem or_hi (k a b : Nat) (hb : b < 2 ^ k) : b ||| 2 ^ k * a = 2 ^ k * a + b := by
  rw [Nat.or_comm]; exact (Nat.two_pow_add_eq_or_of_lt hb a).symm

/-- Two rows of digits that stand between each other. -/
theorem or_mix (k a q A B : Nat) (ha : a < 2 ^ k) (hq : q < 2 ^ k) :
    (a + 2 ^ (2 * k) * A) ||| (2 ^ k * q + 2 ^ (2 * k) * B) = 2 ^ k * q + a + 2 ^ (2 * k) * (A ||| B) := by
  have hk : 2 ^ (2 * k) = 2 ^ k * 2 ^ k := by rw [← Nat.pow_add]; congr 1; omega
  have hpos : 0 < 2 ^ k := Nat.two_pow_pos k
  have ha' : a < 2 ^ (2 * k) := by rw [hk]; exact Nat.lt_of_lt_of_le ha (Nat.le_mul_of_pos_left _ hpos)
  have hq' : 2 ^ k * q < 2 ^ (2 * k) := by rw [hk]; exact Nat.mul_lt_mul_of_pos_left hq hpos
  rw [or_split (2 * k)]
  have e1 : (a + 2 ^ (2 * k) * A) / 2 ^ (2 * k) = A := by
    rw [Nat.add_mul_div_left _ _ (Nat.two_pow_pos _), Nat.div_eq_of_lt ha', Nat.zero_add]
  have e2 : (2 ^ k * q + 2 ^ (2 * k) * B) / 2 ^ (2 * k) = B := by
    rw [Nat.add_mul_div_left _ _ (Nat.two_pow_pos _), Nat.div_eq_of_lt hq', Nat.zero_add]
  have e3 : (a + 2 ^ (2 * k) * A) % 2 ^ (2 * k) = a := by rw [Nat.add_mul_mod_self_left, Nat.mod_eq_of_lt ha']
  have e4 : (2 ^ k * q + 2 ^ (2 * k) * B) % 2 ^ (2 * k) = 2 ^ k * q := by rw [Nat.add_mul_mod_self_left, Nat.mod_eq_of_lt hq']
  rw [e1, e2, e3, e4, or_hi k q a ha]
  omega

theorem mask32 (x : Nat) : x &&& 16711935 = x % 256 + 65536 * (x / 65536 % 256) := by
  rw [and_split 16 x]
  have h1 : x / 2 ^ 16 &&& 16711935 / 2 ^ 16 = x / 65536 % 256 := and_low (x / 65536) 8
  have h2 : x % 2 ^ 16 &&& 16711935 % 2 ^ 16 = x % 65536 % 256 := and_low (x % 65536) 8
  rw [h1, h2]
  omega

theorem mask64 (x : Nat) : x &&& 71777214294589695 = x % 256 + 65536 * (x / 65536 % 256) + 4294967296 * (x / 4294967296 % 256 + 65536 * (x / 281474976710656 % 256)) := by
  rw [and_split 32 x]
  have h1 : x / 2 ^ 32 &&& 71777214294589695 / 2 ^ 32 = _ := mask32 (x / 4294967296)
  have h2 : x % 2 ^ 32 &&& 71777214294589695 % 2 ^ 32 = _ := mask32 (x % 4294967296)
  rw [h1, h2]
  omega

theorem maskW (x : Nat) : x &&& 281470681808895 = x % 65536 + 4294967296 * (x / 4294967296 % 65536) := by
  rw [and_split 32 x]
  have h1 : x / 2 ^ 32 &&& 281470681808895 / 2 ^ 32 = _ := and_low (x / 4294967296) 16
  have h2 : x % 2 ^ 32 &&& 281470681808895 % 2 ^ 32 = _ := and_low (x % 4294967296) 16
  rw [h1, h2]
  omega

/-- Each two bytes changed about. -/
theorem pairs32 (x : Nat) (hx : x < 4294967296) : ((x / 256 &&& 16711935) ||| ((x &&& 16711935) * 256)) = x / 256 % 256 + 256 * (x % 256) + 65536 * (x / 16777216 + 256 * (x / 65536 % 256)) := by
  rw [mask32, mask32]
  have h := or_mix 8 (x / 256 % 256) (x % 256) (x / 256 / 65536 % 256) (256 * (x / 65536 % 256)) (by omega) (by omega)
  have h2 : x / 256 / 65536 % 256 ||| 256 * (x / 65536 % 256) = 256 * (x / 65536 % 256) + x / 256 / 65536 % 256 := or_hi 8 _ _ (by omega)
  rw [h2] at h
  have e : (x % 256 + 65536 * (x / 65536 % 256)) * 256 = 2 ^ 8 * (x % 256) + 2 ^ (2 * 8) * (256 * (x / 65536 % 256)) := by omega
  rw [e]
  refine Eq.trans h ?_
  omega

def pr (y : Nat) : Nat := y / 256 % 256 + 256 * (y % 256) + 65536 * (y / 16777216 + 256 * (y / 65536 % 256))
def sw (y : Nat) : Nat := y / 65536 + 65536 * (y % 65536)

theorem pr_lt (y : Nat) (h : y < 4294967296) : pr y < 4294967296 := by unfold pr; omega
theorem sw_lt (y : Nat) (h : y < 4294967296) : sw y < 4294967296 := by unfold sw; omega

/-- Halves go each by itself. -/
theorem or_join (a b c d : Nat) (hb : b < 4294967296) (hd : d < 4294967296) : (4294967296 * a + b) ||| (4294967296 * c + d) = 4294967296 * (a ||| c) + (b ||| d) := by
  rw [or_split 32]
  have d1 : (4294967296 * a + b) / 2 ^ 32 = a := by omega
  have d2 : (4294967296 * c + d) / 2 ^ 32 = c := by omega
  have d3 : (4294967296 * a + b) % 2 ^ 32 = b := by omega
  have d4 : (4294967296 * c + d) % 2 ^ 32 = d := by omega
  rw [d1, d2, d3, d4]

theorem lin4 (p q r s : Nat) : p + 65536 * q + 4294967296 * (r + 65536 * s) = 4294967296 * (r + 65536 * s) + (p + 65536 * q) := by omega
theorem lin4' (p q r s : Nat) : (p + 65536 * q + 4294967296 * (r + 65536 * s)) * 256 = 4294967296 * ((r + 65536 * s) * 256) + (p + 65536 * q) * 256 := by omega

theorem low_lt (x : Nat) : x % 4294967296 / 256 &&& 16711935 < 4294967296 := by rw [mask32]; omega
theorem low_lt' (x : Nat) : (x % 4294967296 &&& 16711935) * 256 < 4294967296 := by rw [mask32]; omega

theorem pairs64 (x : Nat) (hx : x < 18446744073709551616) : ((x / 256 &&& 71777214294589695) ||| ((x &&& 71777214294589695) * 256)) = 4294967296 * pr (x / 4294967296) + pr (x % 4294967296) := by
  have h1 : _ = pr _ := pairs32 (x / 4294967296) (by omega)
  have h2 : _ = pr _ := pairs32 (x % 4294967296) (by omega)
  have e1 : x / 256 &&& 71777214294589695 = 4294967296 * (x / 4294967296 / 256 &&& 16711935) + (x % 4294967296 / 256 &&& 16711935) := by
    rw [mask64, mask32, mask32]
    have a1 : x / 256 % 256 = x % 4294967296 / 256 % 256 := by omega
    have a2 : x / 256 / 65536 % 256 = x % 4294967296 / 256 / 65536 % 256 := by omega
    have a3 : x / 256 / 4294967296 % 256 = x / 4294967296 / 256 % 256 := by omega
    have a4 : x / 256 / 281474976710656 % 256 = x / 4294967296 / 256 / 65536 % 256 := by omega
    rw [a1, a2, a3, a4]
    exact lin4 _ _ _ _
  have e2 : (x &&& 71777214294589695) * 256 = 4294967296 * ((x / 4294967296 &&& 16711935) * 256) + (x % 4294967296 &&& 16711935) * 256 := by
    rw [mask64, mask32, mask32]
    have a1 : x % 256 = x % 4294967296 % 256 := by omega
    have a2 : x / 65536 % 256 = x % 4294967296 / 65536 % 256 := by omega
    have a4 : x / 281474976710656 % 256 = x / 4294967296 / 65536 % 256 := by omega
    rw [a1, a2, a4]
    exact lin4' _ _ _ _
  rw [e1, e2, or_join _ _ _ _ (low_lt x) (low_lt' x), h1, h2]

/-- Each two words of two bytes changed about. -/
theorem words64 (hi lo : Nat) (h1 : hi < 4294967296) (h2 : lo < 4294967296) : (((4294967296 * hi + lo) / 65536 &&& 281470681808895) ||| (((4294967296 * hi + lo) &&& 281470681808895) * 65536)) =
    4294967296 * sw hi + sw lo := by
  rw [maskW, maskW]
  have a1 : (4294967296 * hi + lo) / 65536 % 65536 = lo / 65536 := by omega
  have a2 : (4294967296 * hi + lo) / 65536 / 4294967296 % 65536 = hi / 65536 := by omega
  have a3 : (4294967296 * hi + lo) % 65536 = lo % 65536 := by omega
  have a4 : (4294967296 * hi + lo) / 4294967296 % 65536 = hi % 65536 := by omega
  rw [a1, a2, a3, a4]
  have b1 : lo / 65536 < 65536 := by omega
  have b2 : hi / 65536 < 65536 := by omega
  have b3 : lo % 65536 < 65536 := by omega
  have b4 : hi % 65536 < 65536 := by omega
  unfold sw
  generalize lo / 65536 = p1 at *
  generalize hi / 65536 = p2 at *
  generalize lo % 65536 = p3 at *
  generalize hi % 65536 = p4 at *
  have e1 : p1 + 4294967296 * p2 = 4294967296 * p2 + p1 := by omega
  have e2 : (p3 + 4294967296 * p4) * 65536 = 4294967296 * (65536 * p4) + 65536 * p3 := by omega
  rw [e1, e2, or_join _ _ _ _ (by omega) (by omega)]
  have o1 : p2 ||| 65536 * p4 = 65536 * p4 + p2 := or_hi 16 _ _ b2
  have o2 : p1 ||| 65536 * p3 = 65536 * p3 + p1 := or_hi 16 _ _ b1
  rw [o1, o2]
  omega

/-- Halves changed about. -/
theorem halves (k x : Nat) (hx : x < 2 ^ k * 2 ^ k) : (x / 2 ^ k ||| (x * 2 ^ k % (2 ^ k * 2 ^ k))) = x / 2 ^ k + 2 ^ k * (x % 2 ^ k) := by
  have e : x * 2 ^ k % (2 ^ k * 2 ^ k) = 2 ^ k * (x % 2 ^ k) := by rw [Nat.mul_comm x, Nat.mul_mod_mul_left]
  rw [e, or_hi k _ _ (Nat.div_lt_of_lt_mul hx)]
  omega

def rev16 (x : Int) : Int := x / 256 + 256 * (x % 256)
def rev32 (x : Int) : Int := x / 16777216 + 256 * (x / 65536 % 256) + 65536 * (x / 256 % 256) + 16777216 * (x % 256)
def rev64 (x : Int) : Int := rev32 (x / 4294967296) + 4294967296 * rev32 (x % 4294967296)

theorem rev_pr (y : Nat) (h : y < 4294967296) : ((sw (pr y) : Nat) : Int) = rev32 (y : Int) := by
  have e1 : pr y / 65536 = y / 16777216 + 256 * (y / 65536 % 256) := by unfold pr; omega
  have e2 : pr y % 65536 = y / 256 % 256 + 256 * (y % 256) := by unfold pr; omega
  unfold sw
  rw [e1, e2]
  unfold rev32
  have c1 : ((y / 16777216 : Nat) : Int) = (y : Int) / 16777216 := by omega
  have c2 : ((y / 65536 % 256 : Nat) : Int) = (y : Int) / 65536 % 256 := by omega
  have c3 : ((y / 256 % 256 : Nat) : Int) = (y : Int) / 256 % 256 := by omega
  have c4 : ((y % 256 : Nat) : Int) = (y : Int) % 256 := by omega
  rw [← c1, ← c2, ← c3, ← c4]
  omega

theorem rev16_is (x : Int) (h0 : 0 ≤ x) (h1 : x < 65536) : bits .or .u16 (x / 256) (IntKind.u16.wrap (x * 256)) = rev16 x := by
  obtain ⟨n, rfl⟩ := Int.eq_ofNat_of_zero_le h0
  rw [IntKind.wrap_u16, u16_or _ _ (by omega) (by omega) (by omega) (by omega)]
  have e1 : ((n : Int) / 256).toNat = n / 2 ^ 8 := by omega
  have e2 : ((n : Int) * 256 % 65536).toNat = n * 2 ^ 8 % (2 ^ 8 * 2 ^ 8) := by omega
  rw [e1, e2, halves 8 n (by omega)]
  unfold rev16
  omega

theorem and_u32 (n m : Nat) (hn : n < 4294967296) (hm : m < 4294967296) : bits .and .u32 (n : Int) (m : Int) = ((n &&& m : Nat) : Int) := by
  rw [u32_and _ _ (by omega) (by omega) (by omega) (by omega), Int.toNat_natCast, Int.toNat_natCast]
theorem or_u32 (n m : Nat) (hn : n < 4294967296) (hm : m < 4294967296) : bits .or .u32 (n : Int) (m : Int) = ((n ||| m : Nat) : Int) := by
  rw [u32_or _ _ (by omega) (by omega) (by omega) (by omega), Int.toNat_natCast, Int.toNat_natCast]
theorem and_u64 (n m : Nat) (hn : n < 18446744073709551616) (hm : m < 18446744073709551616) : bits .and .u64 (n : Int) (m : Int) = ((n &&& m : Nat) : Int) := by
  rw [u64_and _ _ (by omega) (by omega) (by omega) (by omega), Int.toNat_natCast, Int.toNat_natCast]
theorem or_u64 (n m : Nat) (hn : n < 18446744073709551616) (hm : m < 18446744073709551616) : bits .or .u64 (n : Int) (m : Int) = ((n ||| m : Nat) : Int) := by
  rw [u64_or _ _ (by omega) (by omega) (by omega) (by omega), Int.toNat_natCast, Int.toNat_natCast]

theorem pr_bits32 (n : Nat) (h : n < 4294967296) : bits .or .u32 (bits .and .u32 ((n : Int) / 256) 16711935) (bits .and .u32 (n : Int) 16711935 * 256 % 4294967296) = (pr n : Nat) := by
  have e1 : ((n : Int) / 256) = ((n / 256 : Nat) : Int) := by omega
  have b2 : (n &&& 16711935) * 256 < 4294967296 := by rw [mask32]; omega
  have b1 : n / 256 &&& 16711935 < 4294967296 := by rw [mask32]; omega
  have a1 : bits .and .u32 ((n / 256 : Nat) : Int) 16711935 = ((n / 256 &&& 16711935 : Nat) : Int) := and_u32 (n / 256) 16711935 (by omega) (by omega)
  have a2 : bits .and .u32 (n : Int) 16711935 = ((n &&& 16711935 : Nat) : Int) := and_u32 n 16711935 h (by omega)
  rw [e1, a1, a2]
  have e4 : ((n &&& 16711935 : Nat) : Int) * 256 % 4294967296 = (((n &&& 16711935) * 256 : Nat) : Int) := by omega
  rw [e4, or_u32 _ _ b1 b2, pairs32 n h]
  rfl

theorem sw_bits32 (m : Nat) (h : m < 4294967296) : bits .or .u32 ((m : Int) / 65536) ((m : Int) * 65536 % 4294967296) = (sw m : Nat) := by
  have e5 : ((m : Int) / 65536) = ((m / 2 ^ 16 : Nat) : Int) := by omega
  have e6 : ((m : Int) * 65536 % 4294967296) = ((m * 2 ^ 16 % (2 ^ 16 * 2 ^ 16) : Nat) : Int) := by omega
  rw [e5, e6, or_u32 _ _ (by omega) (by omega), halves 16 m (by omega)]
  rfl

theorem rev32_is (x : Int) (h0 : 0 ≤ x) (h1 : x < 4294967296) :
    bits .or .u32 (bits .or .u32 (bits .and .u32 (x / 256) 16711935) (bits .and .u32 x 16711935 * 256 % 4294967296) / 65536)
      (bits .or .u32 (bits .and .u32 (x / 256) 16711935) (bits .and .u32 x 16711935 * 256 % 4294967296) * 65536 % 4294967296) = rev32 x := by
  obtain ⟨n, rfl⟩ := Int.eq_ofNat_of_zero_le h0
  rw [pr_bits32 n (by omega), sw_bits32 _ (pr_lt n (by omega)), rev_pr n (by omega)]

theorem mask64_lt (n : Nat) (h : n < 18446744073709551616) : (n &&& 71777214294589695) * 256 < 18446744073709551616 := by
  have h1 : n &&& 71777214294589695 ≤ 71777214294589695 := Nat.and_le_right
  generalize n &&& 71777214294589695 = a at *
  omega
theorem maskW_lt (n : Nat) (h : n < 18446744073709551616) : (n &&& 281470681808895) * 65536 < 18446744073709551616 := by
  have h1 : n &&& 281470681808895 ≤ 281470681808895 := Nat.and_le_right
  generalize n &&& 281470681808895 = a at *
  omega
theorem wrap_cast (a : Nat) (h : a < 18446744073709551616) : (a : Int) % 18446744073709551616 = (a : Int) := by omega

theorem pr_bits64 (n : Nat) (h : n < 18446744073709551616) :
    bits .or .u64 (bits .and .u64 ((n : Int) / 256) 71777214294589695) (IntKind.u64.wrap (bits .and .u64 (n : Int) 71777214294589695 * 256)) = ((4294967296 * pr (n / 4294967296) + pr (n % 4294967296) : Nat) : Int) := by
  have e1 : ((n : Int) / 256) = ((n / 256 : Nat) : Int) := by omega
  have b0 : n / 256 < 18446744073709551616 := by omega
  have b2 := mask64_lt n h
  have b1 : n / 256 &&& 71777214294589695 < 18446744073709551616 := Nat.lt_of_le_of_lt Nat.and_le_left b0
  have a1 : bits .and .u64 ((n / 256 : Nat) : Int) 71777214294589695 = ((n / 256 &&& 71777214294589695 : Nat) : Int) := and_u64 (n / 256) 71777214294589695 b0 (by omega)
  have a2 : bits .and .u64 (n : Int) 71777214294589695 = ((n &&& 71777214294589695 : Nat) : Int) := and_u64 n 71777214294589695 h (by omega)
  have e4 : ((n &&& 71777214294589695 : Nat) : Int) * 256 = (((n &&& 71777214294589695) * 256 : Nat) : Int) := by rw [Int.natCast_mul]; rfl
  rw [e1, a1, a2, IntKind.wrap_u64, e4, wrap_cast _ b2, or_u64 _ _ b1 b2, pairs64 n h]

theorem sw_bits64 (hi lo m : Nat) (h1 : hi < 4294967296) (h2 : lo < 4294967296) (hm : m = 4294967296 * hi + lo) :
    bits .or .u64 (bits .and .u64 ((m : Int) / 65536) 281470681808895) (IntKind.u64.wrap (bits .and .u64 (m : Int) 281470681808895 * 65536)) = ((4294967296 * sw hi + sw lo : Nat) : Int) := by
  have h : m < 18446744073709551616 := by omega
  have e1 : ((m : Int) / 65536) = ((m / 65536 : Nat) : Int) := by omega
  have b0 : m / 65536 < 18446744073709551616 := by omega
  have b2 := maskW_lt m h
  have b1 : m / 65536 &&& 281470681808895 < 18446744073709551616 := Nat.lt_of_le_of_lt Nat.and_le_left b0
  have a1 : bits .and .u64 ((m / 65536 : Nat) : Int) 281470681808895 = ((m / 65536 &&& 281470681808895 : Nat) : Int) := and_u64 (m / 65536) 281470681808895 b0 (by omega)
  have a2 : bits .and .u64 (m : Int) 281470681808895 = ((m &&& 281470681808895 : Nat) : Int) := and_u64 m 281470681808895 h (by omega)
  have e4 : ((m &&& 281470681808895 : Nat) : Int) * 65536 = (((m &&& 281470681808895) * 65536 : Nat) : Int) := by rw [Int.natCast_mul]; rfl
  rw [e1, a1, a2, IntKind.wrap_u64, e4, wrap_cast _ b2, or_u64 _ _ b1 b2, hm, words64 hi lo h1 h2]

theorem half_bits64 (hi lo m : Nat) (h1 : hi < 4294967296) (h2 : lo < 4294967296) (hm : m = 4294967296 * hi + lo) :
    bits .or .u64 ((m : Int) / 4294967296) (IntKind.u64.wrap ((m : Int) * 4294967296)) = ((hi + 4294967296 * lo : Nat) : Int) := by
  have h : m < 18446744073709551616 := by omega
  have e5 : ((m : Int) / 4294967296) = ((m / 2 ^ 32 : Nat) : Int) := by omega
  have e6 : ((m : Int) * 4294967296 % 18446744073709551616) = ((m * 2 ^ 32 % (2 ^ 32 * 2 ^ 32) : Nat) : Int) := by omega
  rw [IntKind.wrap_u64, e5, e6, or_u64 _ _ (by omega) (by omega), halves 32 m (by omega)]
  have d1 : m / 2 ^ 32 = hi := by omega
  have d2 : m % 2 ^ 32 = lo := by omega
  rw [d1, d2]

theorem rev64_is (x : Int) (h0 : 0 ≤ x) (h1 : x < 18446744073709551616) (p q : Int)
    (hp : p = bits .or .u64 (bits .and .u64 (x / 256) 71777214294589695) (IntKind.u64.wrap (bits .and .u64 x 71777214294589695 * 256)))
    (hq : q = bits .or .u64 (bits .and .u64 (p / 65536) 281470681808895) (IntKind.u64.wrap (bits .and .u64 p 281470681808895 * 65536))) :
    bits .or .u64 (q / 4294967296) (IntKind.u64.wrap (q * 4294967296)) = rev64 x := by
  obtain ⟨n, rfl⟩ := Int.eq_ofNat_of_zero_le h0
  have hn1 : n / 4294967296 < 4294967296 := by omega
  have hn2 : n % 4294967296 < 4294967296 := by omega
  rw [pr_bits64 n (by omega)] at hp
  rw [hp, sw_bits64 _ _ _ (pr_lt _ hn1) (pr_lt _ hn2) rfl] at hq
  rw [hq, half_bits64 _ _ _ (sw_lt _ (pr_lt _ hn1)) (sw_lt _ (pr_lt _ hn2)) rfl, Int.natCast_add, Int.natCast_mul, rev_pr _ hn1, rev_pr _ hn2]
  unfold rev64
  have c1 : ((n / 4294967296 : Nat) : Int) = (n : Int) / 4294967296 := by omega
  have c2 : ((n % 4294967296 : Nat) : Int) = (n : Int) % 4294967296 := by omega
  rw [c1, c2]
  rfl
end Go.Proofs.Ytlhegejfaihgmaa.Sp
