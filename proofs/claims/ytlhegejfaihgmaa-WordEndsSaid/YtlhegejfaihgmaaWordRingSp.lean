/-
  Plain: sums and products of words are a ring, quotients and rests belong together. No program.
-/
import Derived.Test.YtlhegejfaihgmaaWordSpecD
namespace Go.Proofs.Ytlhegejfaihgmaa.Sp
open Go.RowKit
set_option linter.unusedVariables false

def md (wide : Bool) : Int := if wide then 18446744073709551616 else 4294967296
def sg (wide : Bool) (x : Int) : Int := if wide then wrap64 x else wrap32 x
theorem md_pos (wide : Bool) : 0 < md wide := by cases wide <;> decide

theorem cut64 {a : Int} (h : W64 a) : a % 18446744073709551616 = a := Int.emod_eq_of_lt h.1 h.2
theorem cut_md {a : Int} (h : W64 a) : a % md true = a := cut64 h

theorem mm (x M : Int) : x % M % M = x % M := Int.emod_emod_of_dvd x (Int.dvd_refl M)
theorem mul_l (x y M : Int) : x % M * y % M = x * y % M := by rw [Int.mul_emod, mm, ← Int.mul_emod]
theorem mul_r (x y M : Int) : x * (y % M) % M = x * y % M := by rw [Int.mul_emod, mm, ← Int.mul_emod]
theorem add_l (x y M : Int) : (x % M + y) % M = (x + y) % M := by rw [Int.add_emod, mm, ← Int.add_emod]
theorem add_r (x y M : Int) : (x + y % M) % M = (x + y) % M := by rw [Int.add_emod, mm, ← Int.add_emod]
theorem sub_l (x y M : Int) : (x % M - y) % M = (x - y) % M := by rw [Int.sub_emod, mm, ← Int.sub_emod]
theorem sub_r (x y M : Int) : (x - y % M) % M = (x - y) % M := by rw [Int.sub_emod, mm, ← Int.sub_emod]

theorem v_add (wide : Bool) (a b : Int) : val 0 0 wide a b = (a + b) % md wide := by
  cases wide
  · show (a % 4294967296 + b % 4294967296) % 4294967296 = (a + b) % 4294967296
    rw [add_l, add_r]
  · rfl
theorem v_sub (wide : Bool) (a b : Int) : val 16 0 wide a b = (a - b) % md wide := by
  cases wide
  · show (a % 4294967296 - b % 4294967296) % 4294967296 = (a - b) % 4294967296
    rw [sub_l, sub_r]
  · rfl
theorem v_mul (wide : Bool) (a b : Int) : val 32 0 wide a b = a * b % md wide := by
  cases wide
  · show a % 4294967296 * (b % 4294967296) % 4294967296 = a * b % 4294967296
    rw [mul_l, mul_r]
  · rfl
theorem v_neg (wide : Bool) (a b : Int) : val 128 0 wide a b = -a % md wide := by
  cases wide
  · show -(a % 4294967296) % 4294967296 = -a % 4294967296
    have := sub_r 0 a 4294967296
    simpa using this
  · rfl
theorem v_div0 (wide : Bool) {a b : Int} (ha : W64 a) (hb : W64 b) : val 48 0 wide a b = (a % md wide).tdiv (b % md wide) % md wide := by
  cases wide
  · rfl
  · rw [cut_md ha, cut_md hb]; rfl
theorem v_div1 (wide : Bool) {a b : Int} (ha : W64 a) (hb : W64 b) : val 48 1 wide a b = sg wide ((sg wide (a % md wide)).tdiv (sg wide (b % md wide))) % md wide := by
  cases wide
  · rfl
  · rw [cut_md ha, cut_md hb]; rfl
theorem v_mod0 (wide : Bool) {a b : Int} (ha : W64 a) (hb : W64 b) : val 144 0 wide a b = (a % md wide) % (b % md wide) := by
  cases wide
  · rfl
  · rw [cut_md ha, cut_md hb]; rfl
theorem v_mod1 (wide : Bool) {a b : Int} (ha : W64 a) (hb : W64 b) : val 144 1 wide a b = (sg wide (a % md wide)).tmod (sg wide (b % md wide)) % md wide := by
  cases wide
  · rfl
  · rw [cut_md ha, cut_md hb]; rfl

theorem sg_mod (wide : Bool) (x : Int) : sg wide x % md wide = x % md wide := by
  cases wide
  · show wrap32 x % 4294967296 = x % 4294967296
    unfold wrap32; omega
  · show wrap64 x % 18446744073709551616 = x % 18446744073709551616
    unfold wrap64; omega

theorem r1 (wide : Bool) (a b : Int) : (val 0 0 wide a b == val 0 0 wide b a) = true := by
  rw [v_add, v_add, Int.add_comm]; simp
theorem r2 (wide : Bool) (a b c : Int) : (val 0 0 wide (val 0 0 wide a b) c == val 0 0 wide a (val 0 0 wide b c)) = true := by
  rw [v_add, v_add, v_add, v_add, add_l, add_r, Int.add_assoc]; simp
theorem r3 (wide : Bool) (a b c : Int) : (val 32 0 wide a (val 0 0 wide b c) != val 0 0 wide (val 32 0 wide a b) (val 32 0 wide a c)) = false := by
  rw [v_add, v_mul, v_mul, v_mul, v_add, mul_r, add_l, add_r, Int.mul_add]; simp
theorem r4 (wide : Bool) (a b low : Int) (hl : low = a % md wide) : (val 16 0 wide (val 0 0 wide a b) b != low) = false := by
  rw [v_add, v_sub, sub_l, Int.add_sub_cancel, hl]; simp
theorem r5 (wide : Bool) (a c : Int) : (val 128 0 wide a c != val 16 0 wide 0 a) = false := by
  rw [v_neg, v_sub, Int.zero_sub]; simp
theorem r6 (wide : Bool) {off a b low : Int} (ho : off = 0 ∨ off = 1) (ha : W64 a) (hb : W64 b) (hl : low = a % md wide) :
    (val 0 0 wide (val 32 0 wide (val 48 off wide a b) b) (val 144 off wide a b) != low) = false := by
  have key : val 0 0 wide (val 32 0 wide (val 48 off wide a b) b) (val 144 off wide a b) = low := by
    rw [v_add, v_mul, add_l, hl]
    have hA := mod_bd a (md_pos wide)
    have hB := mod_bd b (md_pos wide)
    rcases ho with rfl | rfl
    · rw [v_div0 wide ha hb, v_mod0 wide ha hb, ← add_l, mul_l, ← mul_r, add_l, Int.tdiv_eq_ediv_of_nonneg hA.1, Int.mul_comm, Int.mul_ediv_add_emod, mm]
    · rw [v_div1 wide ha hb, v_mod1 wide ha hb, add_r, ← add_l, mul_l, ← mul_l, sg_mod, mul_l]
      have e : (sg wide (a % md wide)).tdiv (sg wide (b % md wide)) * b % md wide = (sg wide (a % md wide)).tdiv (sg wide (b % md wide)) * sg wide (b % md wide) % md wide := by
        rw [← mul_r _ b, ← mul_r _ (sg wide (b % md wide)), sg_mod, mm]
      rw [e, add_l, Int.mul_comm, Int.mul_tdiv_add_tmod, sg_mod, mm]
  rw [key]; simp
theorem r7a (a b : Int) : decide (val 32 0 false a b < 4294967296) = true := by
  rw [v_mul]; exact decide_eq_true (mod_bd _ (md_pos false)).2
theorem r7b (a b : Int) : decide (val 176 8 false a b < 4294967296) = true := by
  have e : val 176 8 false a b = IntKind.i8.wrap (b % 4294967296) % 4294967296 := rfl
  rw [e]; exact decide_eq_true (mod_bd _ (by decide)).2
theorem r7c (a b : Int) : (val 160 0 false a b == val 160 0 false (a % 4294967296) (b % 4294967296)) = true := by
  have e : ∀ x y : Int, val 160 0 false x y = bits .xor .u32 (x % 4294967296) (y % 4294967296) := fun _ _ => rfl
  rw [e, e, mm, mm]; simp
end Go.Proofs.Ytlhegejfaihgmaa.Sp
