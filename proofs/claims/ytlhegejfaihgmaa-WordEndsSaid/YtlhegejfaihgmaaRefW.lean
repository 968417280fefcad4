/-
  The contracts of the reference's helpers: a product bit by bit, a shift bit by bit, quotients and rests with signs.
-/
import Derived.Test.YtlhegejfaihgmaaRefSp
import Derived.Test.YtlhegejfaihgmaaProg
import Derived.WalkLawsBesides
import Derived.WalkSpells
import Derived.Handy
import Derived.Lib.Hide
namespace Go.Proofs.Ytlhegejfaihgmaa.RefW
open Go.RowKit
set_option linter.unusedVariables false
theorem ret_int {k : IntKind} {a b : Int} (h : a = b) : Ending.returned (.int k a) = .returned (.int k b) := by rw [h]
theorem ret_bool {a b : Bool} (h : a = b) : Ending.returned (.bool a) = .returned (.bool b) := by rw [h]

theorem times (a b : Int) (w : World) (ha : Sp.W64 a) (hb : Sp.W64 b) : Calls Try.prog 25 #[.int .u64 a, .int .u64 b] w fun e w' => e = .returned (.int .u64 (a * b % 18446744073709551616)) ∧ w = w' := by
  have hb1 : 0 ≤ b := hb.1
  have HE := Lib.hid (Sp.part_64 (a := a) hb)
  have H0 := Lib.hid (Sp.part_0 a b)
  go_enter Try.func25, Try.ntmps25
  go_wp2
  go_loop [5, 6] (fun n i => ∃ k : Nat, k ≤ 64 ∧ i = .int .i64 k ∧ n = .int .u64 (Sp.part a b k)) (fun _ i => 64 - (intOf i).toNat)
  case atStart => exact ⟨0, by omega, rfl, by rw [H0.out]⟩
  case round =>
    obtain ⟨k, hk, rfl, rfl⟩ := hrel
    have hpw := Sp.part_w64 (a := a) (b := b) k
    obtain ⟨hp1, hp2⟩ := hpw
    by_cases hlt : k < 64
    · go_wp2
      · go_round
        case rel => exact ⟨k + 1, by omega, by go_num, by rw [Sp.part_yes hb k ‹_›]⟩
        case measure => simp [intOf]; omega
      · go_round
        case rel => exact ⟨k + 1, by omega, by go_num, by rw [Sp.part_no hb k ‹_›]⟩
        case measure => simp [intOf]; omega
    · obtain rfl : k = 64 := by omega
      go_wp2
      go_ret
      exact ⟨ret_int HE.out, rfl⟩

theorem arsh32 (a s : Int) (w : World) (ha : 0 ≤ a) (ha2 : a < 4294967296) (hs : 0 ≤ s) (hs2 : s < 32) : Calls Try.prog 27 #[.int .u64 a, .int .i64 s, .int .i64 32] w fun e w' => e = .returned (.int .u64 (Sp.ash32 a s.toNat)) ∧ w = w' := by
  have H0 := Lib.hid (Sp.ash32_0 ha ha2)
  obtain ⟨n, rfl⟩ := Int.eq_ofNat_of_zero_le hs
  rw [Int.toNat_natCast]
  go_enter Try.func27, Try.ntmps27
  go_wp2
  go_loop [0, 7] (fun x i => ∃ k : Nat, k ≤ n ∧ i = .int .i64 k ∧ x = .int .u64 (Sp.ash32 a k)) (fun _ i => n - (intOf i).toNat)
  case atStart => exact ⟨0, by omega, rfl, by rw [H0.out]⟩
  case round =>
    obtain ⟨k, hk, rfl, rfl⟩ := hrel
    have hpw := Sp.ash32_bd a k
    obtain ⟨hp1, hp2⟩ := hpw
    by_cases hlt : k < n
    · go_wp2
      go_round
      case rel => exact ⟨k + 1, by omega, by go_num, by rw [Sp.ash32_step a k]⟩
      case measure => simp [intOf]; omega
    · obtain rfl : k = n := by omega
      go_wp2
      go_ret
      exact ⟨rfl, rfl⟩
theorem arsh64 (a s : Int) (w : World) (ha : Sp.W64 a) (hs : 0 ≤ s) (hs2 : s < 64) : Calls Try.prog 27 #[.int .u64 a, .int .i64 s, .int .i64 64] w fun e w' => e = .returned (.int .u64 (Sp.ash64 a s.toNat)) ∧ w = w' := by
  have H0 := Lib.hid (Sp.ash64_0 ha)
  obtain ⟨n, rfl⟩ := Int.eq_ofNat_of_zero_le hs
  rw [Int.toNat_natCast]
  go_enter Try.func27, Try.ntmps27
  go_wp2
  go_loop [0, 7] (fun x i => ∃ k : Nat, k ≤ n ∧ i = .int .i64 k ∧ x = .int .u64 (Sp.ash64 a k)) (fun _ i => n - (intOf i).toNat)
  case atStart => exact ⟨0, by omega, rfl, by rw [H0.out]⟩
  case round =>
    obtain ⟨k, hk, rfl, rfl⟩ := hrel
    have hpw := Sp.ash64_bd a k
    obtain ⟨hp1, hp2⟩ := hpw
    by_cases hlt : k < n
    · go_wp2
      go_round
      case rel => exact ⟨k + 1, by omega, by go_num, by rw [Sp.ash64_step a k]⟩
      case measure => simp [intOf]; omega
    · obtain rfl : k = n := by omega
      go_wp2
      go_ret
      exact ⟨rfl, rfl⟩

theorem neg32 (n : Int) (x : Bool) (w : World) (h0 : 0 ≤ n) (h1 : n < 4294967296) (hx : Hid (decide (wrap32 n < 0) = x)) : Calls Try.prog 76 #[.int .u64 n, .int .i64 32] w fun e w' => e = .returned (.bool x) ∧ w = w' := by
  go_enter Try.func76, Try.ntmps76
  go_wp2
  go_ret
  exact ⟨ret_bool ((Sp.neg32 h0 h1).trans hx.out), rfl⟩
theorem neg64 (n : Int) (x : Bool) (w : World) (hn : Sp.W64 n) (hx : Hid (decide (wrap64 n < 0) = x)) : Calls Try.prog 76 #[.int .u64 n, .int .i64 64] w fun e w' => e = .returned (.bool x) ∧ w = w' := by
  have h0 : 0 ≤ n := hn.1
  go_enter Try.func76, Try.ntmps76
  go_wp2
  go_ret
  exact ⟨ret_bool ((Sp.neg64 hn).trans hx.out), rfl⟩

theorem abs32 (n : Int) (w : World) (h0 : 0 ≤ n) (h1 : n < 4294967296) : Calls Try.prog 81 #[.int .u64 n, .int .i64 32] w fun e w' => e = .returned (.int .u64 ((wrap32 n).natAbs : Int)) ∧ w = w' := by
  by_cases h : wrap32 n < 0
  · have HX : Hid (decide (wrap32 n < 0) = true) := Lib.hid (decide_eq_true h)
    have HE := Lib.hid (Sp.abs32_neg h0 h1 h)
    clear h
    go_enter Try.func81, Try.ntmps81
    go_wp2_with (first | (go_at_call 76; refine (neg32 _ _ _ h0 h1 HX).mono ?_; rintro e w' ⟨rfl, rfl⟩) | go_in)
    go_ret
    exact ⟨ret_int HE.out, rfl⟩
  · have HX : Hid (decide (wrap32 n < 0) = false) := Lib.hid (decide_eq_false h)
    have HE := Lib.hid (Sp.abs32_pos h0 h1 h)
    clear h
    go_enter Try.func81, Try.ntmps81
    go_wp2_with (first | (go_at_call 76; refine (neg32 _ _ _ h0 h1 HX).mono ?_; rintro e w' ⟨rfl, rfl⟩) | go_in)
    go_ret
    exact ⟨ret_int HE.out, rfl⟩
theorem abs64 (n : Int) (w : World) (hn : Sp.W64 n) : Calls Try.prog 81 #[.int .u64 n, .int .i64 64] w fun e w' => e = .returned (.int .u64 ((wrap64 n).natAbs : Int)) ∧ w = w' := by
  by_cases h : wrap64 n < 0
  · have HX : Hid (decide (wrap64 n < 0) = true) := Lib.hid (decide_eq_true h)
    have HE := Lib.hid (Sp.abs64_neg hn h)
    clear h
    go_enter Try.func81, Try.ntmps81
    go_wp2_with (first | (go_at_call 76; refine (neg64 _ _ _ hn HX).mono ?_; rintro e w' ⟨rfl, rfl⟩) | go_in)
    go_ret
    exact ⟨ret_int HE.out, rfl⟩
  · have HX : Hid (decide (wrap64 n < 0) = false) := Lib.hid (decide_eq_false h)
    have HE := Lib.hid (Sp.abs64_pos hn h)
    clear h
    go_enter Try.func81, Try.ntmps81
    go_wp2_with (first | (go_at_call 76; refine (neg64 _ _ _ hn HX).mono ?_; rintro e w' ⟨rfl, rfl⟩) | go_in)
    go_ret
    exact ⟨ret_int HE.out, rfl⟩
end Go.Proofs.Ytlhegejfaihgmaa.RefW
