/-
  The contracts of the reference's quotients and rests with signs.
-/
import Derived.Test.YtlhegejfaihgmaaRefW
import Derived.Test.YtlhegejfaihgmaaRefSpB
namespace Go.Proofs.Ytlhegejfaihgmaa.RefW
open Go.RowKit
set_option linter.unusedVariables false
theorem quot32 (a b : Int) (w : World) (ha : 0 ≤ a) (ha2 : a < 4294967296) (hb : 0 < b) (hb2 : b < 4294967296) : Calls Try.prog 74 #[.int .u64 a, .int .u64 b, .int .i64 32] w fun e w' => e = .returned (.int .u64 (((wrap32 a).tdiv (wrap32 b)) % 4294967296)) ∧ w = w' := by
  obtain ⟨x, hx⟩ : ∃ x, decide (wrap32 a < 0) = x := ⟨_, rfl⟩
  obtain ⟨y, hy⟩ : ∃ y, decide (wrap32 b < 0) = y := ⟨_, rfl⟩
  have HX := Lib.hid hx
  have HY := Lib.hid hy
  clear hx hy
  have hne := Sp.abs32_ne hb hb2
  have hle := Sp.abs32_le (n := a)
  have hnn : 0 ≤ ((wrap32 a).natAbs : Int) := Int.natCast_nonneg _
  obtain ⟨hq0, hq1⟩ := Sp.q_bd (Int.le_trans (Sp.abs32_le (n := a)) (by decide)) hne
  have HE := Lib.hid (Sp.quot_is32 (a := a) (b := b) x y HX.out HY.out hne)
  cases x <;> cases y
  all_goals
    go_enter Try.func74, Try.ntmps74
    go_wp2_with (first | (go_at_call 76; first | ((with_reducible refine (neg32 a _ _ ha ha2 HX).mono ?_); rintro e w' ⟨rfl, rfl⟩) | ((with_reducible refine (neg32 b _ _ (by omega) hb2 HY).mono ?_); rintro e w' ⟨rfl, rfl⟩)) | (go_at_call 81; first | ((with_reducible refine (abs32 a _ ha ha2).mono ?_); rintro e w' ⟨rfl, rfl⟩) | ((with_reducible refine (abs32 b _ (by omega) hb2).mono ?_); rintro e w' ⟨rfl, rfl⟩)) | go_in)
    go_ret
    exact ⟨ret_int HE.out, rfl⟩
theorem rest32 (a b : Int) (w : World) (ha : 0 ≤ a) (ha2 : a < 4294967296) (hb : 0 < b) (hb2 : b < 4294967296) : Calls Try.prog 75 #[.int .u64 a, .int .u64 b, .int .i64 32] w fun e w' => e = .returned (.int .u64 (((wrap32 a).tmod (wrap32 b)) % 4294967296)) ∧ w = w' := by
  obtain ⟨x, hx⟩ : ∃ x, decide (wrap32 a < 0) = x := ⟨_, rfl⟩
  obtain ⟨y, hy⟩ : ∃ y, decide (wrap32 b < 0) = y := ⟨_, rfl⟩
  have HX := Lib.hid hx
  have HY := Lib.hid hy
  clear hx hy
  have hne := Sp.abs32_ne hb hb2
  have hle := Sp.abs32_le (n := a)
  have hnn : 0 ≤ ((wrap32 a).natAbs : Int) := Int.natCast_nonneg _
  obtain ⟨hq0, hq1⟩ := Sp.r_bd (a := (wrap32 a).natAbs) hne (Int.le_trans (Sp.abs32_le (n := b)) (by decide))
  have HE := Lib.hid (Sp.rest_is32 (a := a) (b := b) x y HX.out HY.out hne)
  cases x <;> cases y
  all_goals
    go_enter Try.func75, Try.ntmps75
    go_wp2_with (first | (go_at_call 76; first | ((with_reducible refine (neg32 a _ _ ha ha2 HX).mono ?_); rintro e w' ⟨rfl, rfl⟩) | ((with_reducible refine (neg32 b _ _ (by omega) hb2 HY).mono ?_); rintro e w' ⟨rfl, rfl⟩)) | (go_at_call 81; first | ((with_reducible refine (abs32 a _ ha ha2).mono ?_); rintro e w' ⟨rfl, rfl⟩) | ((with_reducible refine (abs32 b _ (by omega) hb2).mono ?_); rintro e w' ⟨rfl, rfl⟩)) | go_in)
    go_ret
    exact ⟨ret_int HE.out, rfl⟩
theorem quot64 (a b : Int) (w : World) (ha : Sp.W64 a) (hb : Sp.W64 b) (hb0 : 0 < b) : Calls Try.prog 74 #[.int .u64 a, .int .u64 b, .int .i64 64] w fun e w' => e = .returned (.int .u64 (((wrap64 a).tdiv (wrap64 b)) % 18446744073709551616)) ∧ w = w' := by
  obtain ⟨x, hx⟩ : ∃ x, decide (wrap64 a < 0) = x := ⟨_, rfl⟩
  obtain ⟨y, hy⟩ : ∃ y, decide (wrap64 b < 0) = y := ⟨_, rfl⟩
  have HX := Lib.hid hx
  have HY := Lib.hid hy
  clear hx hy
  have hne := Sp.abs64_ne hb hb0
  have hle := Sp.abs64_le (n := a)
  have hnn : 0 ≤ ((wrap64 a).natAbs : Int) := Int.natCast_nonneg _
  obtain ⟨hq0, hq1⟩ := Sp.q_bd (Sp.abs64_le (n := a)) hne
  have HE := Lib.hid (Sp.quot_is64 (a := a) (b := b) x y HX.out HY.out hne)
  cases x <;> cases y
  all_goals
    go_enter Try.func74, Try.ntmps74
    go_wp2_with (first | (go_at_call 76; first | ((with_reducible refine (neg64 a _ _ ha HX).mono ?_); rintro e w' ⟨rfl, rfl⟩) | ((with_reducible refine (neg64 b _ _ hb HY).mono ?_); rintro e w' ⟨rfl, rfl⟩)) | (go_at_call 81; first | ((with_reducible refine (abs64 a _ ha).mono ?_); rintro e w' ⟨rfl, rfl⟩) | ((with_reducible refine (abs64 b _ hb).mono ?_); rintro e w' ⟨rfl, rfl⟩)) | go_in)
    go_ret
    exact ⟨ret_int HE.out, rfl⟩
theorem rest64 (a b : Int) (w : World) (ha : Sp.W64 a) (hb : Sp.W64 b) (hb0 : 0 < b) : Calls Try.prog 75 #[.int .u64 a, .int .u64 b, .int .i64 64] w fun e w' => e = .returned (.int .u64 (((wrap64 a).tmod (wrap64 b)) % 18446744073709551616)) ∧ w = w' := by
  obtain ⟨x, hx⟩ : ∃ x, decide (wrap64 a < 0) = x := ⟨_, rfl⟩
  obtain ⟨y, hy⟩ : ∃ y, decide (wrap64 b < 0) = y := ⟨_, rfl⟩
  have HX := Lib.hid hx
  have HY := Lib.hid hy
  clear hx hy
  have hne := Sp.abs64_ne hb hb0
  have hle := Sp.abs64_le (n := a)
  have hnn : 0 ≤ ((wrap64 a).natAbs : Int) := Int.natCast_nonneg _
  obtain ⟨hq0, hq1⟩ := Sp.r_bd (a := (wrap64 a).natAbs) hne (Sp.abs64_le (n := b))
  have HE := Lib.hid (Sp.rest_is64 (a := a) (b := b) x y HX.out HY.out hne)
  cases x <;> cases y
  all_goals
    go_enter Try.func75, Try.ntmps75
    go_wp2_with (first | (go_at_call 76; first | ((with_reducible refine (neg64 a _ _ ha HX).mono ?_); rintro e w' ⟨rfl, rfl⟩) | ((with_reducible refine (neg64 b _ _ hb HY).mono ?_); rintro e w' ⟨rfl, rfl⟩)) | (go_at_call 81; first | ((with_reducible refine (abs64 a _ ha).mono ?_); rintro e w' ⟨rfl, rfl⟩) | ((with_reducible refine (abs64 b _ hb).mono ?_); rintro e w' ⟨rfl, rfl⟩)) | go_in)
    go_ret
    exact ⟨ret_int HE.out, rfl⟩
end Go.Proofs.Ytlhegejfaihgmaa.RefW
