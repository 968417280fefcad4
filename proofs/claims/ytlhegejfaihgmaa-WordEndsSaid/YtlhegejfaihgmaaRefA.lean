/-
  The contract of the reference's 'Alu': it tells what 'word.Alu' tells.
-/
import Derived.Test.YtlhegejfaihgmaaRefKnown
import Derived.Test.YtlhegejfaihgmaaRefSpC
namespace Go.Proofs.Ytlhegejfaihgmaa.RefA
open Go.RowKit RefW
set_option linter.unusedVariables false
theorem f0_0 (a b : Int) (w : World) (ha : Sp.W64 a) (hb : Sp.W64 b) : Calls Try.prog 9 #[.int .u8 0, .int .i16 0, .bool false, .int .u64 a, .int .u64 b] w fun e w' => e = .returned (Sp.res .u64 (Sp.aluW 0 0 false a b)) ∧ w = w' := by
  have HK : Hid (Known 0 0 false) := Lib.hid (by decide)
  obtain ⟨ha1, ha2⟩ := id ha
  obtain ⟨hb1, hb2⟩ := id hb
  go_enter Try.func9, Try.ntmps9
  go_wp2_with (first | (go_at_call 23; refine (known_yes _ _ _ _ HK).mono ?_; rintro e w' ⟨rfl, rfl⟩) | go_in)
  all_goals
    go_ret2
    simp only [Array.getD_eq_getD_getElem?, List.getElem?_toArray, List.getElem?_cons_succ, List.getElem?_cons_zero, Option.getD_some]
    exact ⟨Sp.fin (Sp.f0_0 a b), trivial⟩
theorem f16_0 (a b : Int) (w : World) (ha : Sp.W64 a) (hb : Sp.W64 b) : Calls Try.prog 9 #[.int .u8 16, .int .i16 0, .bool false, .int .u64 a, .int .u64 b] w fun e w' => e = .returned (Sp.res .u64 (Sp.aluW 16 0 false a b)) ∧ w = w' := by
  have HK : Hid (Known 16 0 false) := Lib.hid (by decide)
  obtain ⟨ha1, ha2⟩ := id ha
  obtain ⟨hb1, hb2⟩ := id hb
  go_enter Try.func9, Try.ntmps9
  go_wp2_with (first | (go_at_call 23; refine (known_yes _ _ _ _ HK).mono ?_; rintro e w' ⟨rfl, rfl⟩) | go_in)
  all_goals
    go_ret2
    simp only [Array.getD_eq_getD_getElem?, List.getElem?_toArray, List.getElem?_cons_succ, List.getElem?_cons_zero, Option.getD_some]
    exact ⟨Sp.fin (Sp.f16_0 a b), trivial⟩
theorem f32_0 (a b : Int) (w : World) (ha : Sp.W64 a) (hb : Sp.W64 b) : Calls Try.prog 9 #[.int .u8 32, .int .i16 0, .bool false, .int .u64 a, .int .u64 b] w fun e w' => e = .returned (Sp.res .u64 (Sp.aluW 32 0 false a b)) ∧ w = w' := by
  have HK : Hid (Known 32 0 false) := Lib.hid (by decide)
  obtain ⟨ha1, ha2⟩ := id ha
  obtain ⟨hb1, hb2⟩ := id hb
  go_enter Try.func9, Try.ntmps9
  go_wp2_with (first | (go_at_call 23; refine (known_yes _ _ _ _ HK).mono ?_; rintro e w' ⟨rfl, rfl⟩) | (go_at_call 25; refine (times _ _ _ (by first | assumption | exact ⟨by omega, by omega⟩) (by first | assumption | exact ⟨by omega, by omega⟩)).mono ?_; rintro e w' ⟨rfl, rfl⟩) | go_in)
  all_goals
    go_ret2
    simp only [Array.getD_eq_getD_getElem?, List.getElem?_toArray, List.getElem?_cons_succ, List.getElem?_cons_zero, Option.getD_some]
    exact ⟨Sp.fin (Sp.f32_0 a b), trivial⟩
theorem f48_0 (a b : Int) (w : World) (ha : Sp.W64 a) (hb : Sp.W64 b) (hb0 : 0 < (b % 4294967296)) : Calls Try.prog 9 #[.int .u8 48, .int .i16 0, .bool false, .int .u64 a, .int .u64 b] w fun e w' => e = .returned (Sp.res .u64 (Sp.aluW 48 0 false a b)) ∧ w = w' := by
  have HK : Hid (Known 48 0 false) := Lib.hid (by decide)
  obtain ⟨ha1, ha2⟩ := id ha
  obtain ⟨hb1, hb2⟩ := id hb
  have hz2 : ((b % 4294967296) == 0) = false := by simp; omega
  go_enter Try.func9, Try.ntmps9
  go_wp2_with (first | (go_at_call 23; refine (known_yes _ _ _ _ HK).mono ?_; rintro e w' ⟨rfl, rfl⟩) | (go_at_call 74; refine (quot32 _ _ _ (by omega) (by omega) hb0 (by omega)).mono ?_; rintro e w' ⟨rfl, rfl⟩) | (go_at_call 75; refine (rest32 _ _ _ (by omega) (by omega) hb0 (by omega)).mono ?_; rintro e w' ⟨rfl, rfl⟩) | go_in)
  all_goals
    go_ret2
    simp only [Array.getD_eq_getD_getElem?, List.getElem?_toArray, List.getElem?_cons_succ, List.getElem?_cons_zero, Option.getD_some]
    exact ⟨Sp.fin (Sp.f48_0 a b), trivial⟩
theorem f48_0z (a b : Int) (w : World) (ha : Sp.W64 a) (hb : Sp.W64 b) (hz : (b % 4294967296) = 0) : Calls Try.prog 9 #[.int .u8 48, .int .i16 0, .bool false, .int .u64 a, .int .u64 b] w fun e w' => e = .returned (Sp.res .u64 (Sp.aluW 48 0 false a b)) ∧ w = w' := by
  have HK : Hid (Known 48 0 false) := Lib.hid (by decide)
  obtain ⟨ha1, ha2⟩ := id ha
  obtain ⟨hb1, hb2⟩ := id hb
  have hz2 : ((b % 4294967296) == 0) = true := by simpa using hz
  have HZ := Lib.hid hz
  clear hz
  go_enter Try.func9, Try.ntmps9
  go_wp2_with (first | (go_at_call 23; refine (known_yes _ _ _ _ HK).mono ?_; rintro e w' ⟨rfl, rfl⟩) | go_in)
  all_goals
    go_ret2
    simp only [Array.getD_eq_getD_getElem?, List.getElem?_toArray, List.getElem?_cons_succ, List.getElem?_cons_zero, Option.getD_some]
    exact ⟨Sp.fin (Sp.dz false (by decide) HZ.out (fun h => by cases h)), trivial⟩
theorem f48_1 (a b : Int) (w : World) (ha : Sp.W64 a) (hb : Sp.W64 b) (hb0 : 0 < (b % 4294967296)) : Calls Try.prog 9 #[.int .u8 48, .int .i16 1, .bool false, .int .u64 a, .int .u64 b] w fun e w' => e = .returned (Sp.res .u64 (Sp.aluW 48 1 false a b)) ∧ w = w' := by
  have HK : Hid (Known 48 1 false) := Lib.hid (by decide)
  obtain ⟨ha1, ha2⟩ := id ha
  obtain ⟨hb1, hb2⟩ := id hb
  have hz2 : ((b % 4294967296) == 0) = false := by simp; omega
  go_enter Try.func9, Try.ntmps9
  go_wp2_with (first | (go_at_call 23; refine (known_yes _ _ _ _ HK).mono ?_; rintro e w' ⟨rfl, rfl⟩) | (go_at_call 74; refine (quot32 _ _ _ (by omega) (by omega) hb0 (by omega)).mono ?_; rintro e w' ⟨rfl, rfl⟩) | (go_at_call 75; refine (rest32 _ _ _ (by omega) (by omega) hb0 (by omega)).mono ?_; rintro e w' ⟨rfl, rfl⟩) | go_in)
  all_goals
    go_ret2
    simp only [Array.getD_eq_getD_getElem?, List.getElem?_toArray, List.getElem?_cons_succ, List.getElem?_cons_zero, Option.getD_some]
    exact ⟨Sp.fin (Sp.f48_1 a b), trivial⟩
theorem f48_1z (a b : Int) (w : World) (ha : Sp.W64 a) (hb : Sp.W64 b) (hz : (b % 4294967296) = 0) : Calls Try.prog 9 #[.int .u8 48, .int .i16 1, .bool false, .int .u64 a, .int .u64 b] w fun e w' => e = .returned (Sp.res .u64 (Sp.aluW 48 1 false a b)) ∧ w = w' := by
  have HK : Hid (Known 48 1 false) := Lib.hid (by decide)
  obtain ⟨ha1, ha2⟩ := id ha
  obtain ⟨hb1, hb2⟩ := id hb
  have hz2 : ((b % 4294967296) == 0) = true := by simpa using hz
  have HZ := Lib.hid hz
  clear hz
  go_enter Try.func9, Try.ntmps9
  go_wp2_with (first | (go_at_call 23; refine (known_yes _ _ _ _ HK).mono ?_; rintro e w' ⟨rfl, rfl⟩) | go_in)
  all_goals
    go_ret2
    simp only [Array.getD_eq_getD_getElem?, List.getElem?_toArray, List.getElem?_cons_succ, List.getElem?_cons_zero, Option.getD_some]
    exact ⟨Sp.fin (Sp.dz false (by decide) HZ.out (fun h => by cases h)), trivial⟩
theorem f144_0 (a b : Int) (w : World) (ha : Sp.W64 a) (hb : Sp.W64 b) (hb0 : 0 < (b % 4294967296)) : Calls Try.prog 9 #[.int .u8 144, .int .i16 0, .bool false, .int .u64 a, .int .u64 b] w fun e w' => e = .returned (Sp.res .u64 (Sp.aluW 144 0 false a b)) ∧ w = w' := by
  have HK : Hid (Known 144 0 false) := Lib.hid (by decide)
  obtain ⟨ha1, ha2⟩ := id ha
  obtain ⟨hb1, hb2⟩ := id hb
  have hz2 : ((b % 4294967296) == 0) = false := by simp; omega
  go_enter Try.func9, Try.ntmps9
  go_wp2_with (first | (go_at_call 23; refine (known_yes _ _ _ _ HK).mono ?_; rintro e w' ⟨rfl, rfl⟩) | (go_at_call 74; refine (quot32 _ _ _ (by omega) (by omega) hb0 (by omega)).mono ?_; rintro e w' ⟨rfl, rfl⟩) | (go_at_call 75; refine (rest32 _ _ _ (by omega) (by omega) hb0 (by omega)).mono ?_; rintro e w' ⟨rfl, rfl⟩) | go_in)
  all_goals
    go_ret2
    simp only [Array.getD_eq_getD_getElem?, List.getElem?_toArray, List.getElem?_cons_succ, List.getElem?_cons_zero, Option.getD_some]
    exact ⟨Sp.fin (Sp.f144_0 a b), trivial⟩
theorem f144_0z (a b : Int) (w : World) (ha : Sp.W64 a) (hb : Sp.W64 b) (hz : (b % 4294967296) = 0) : Calls Try.prog 9 #[.int .u8 144, .int .i16 0, .bool false, .int .u64 a, .int .u64 b] w fun e w' => e = .returned (Sp.res .u64 (Sp.aluW 144 0 false a b)) ∧ w = w' := by
  have HK : Hid (Known 144 0 false) := Lib.hid (by decide)
  obtain ⟨ha1, ha2⟩ := id ha
  obtain ⟨hb1, hb2⟩ := id hb
  have hz2 : ((b % 4294967296) == 0) = true := by simpa using hz
  have HZ := Lib.hid hz
  clear hz
  go_enter Try.func9, Try.ntmps9
  go_wp2_with (first | (go_at_call 23; refine (known_yes _ _ _ _ HK).mono ?_; rintro e w' ⟨rfl, rfl⟩) | go_in)
  all_goals
    go_ret2
    simp only [Array.getD_eq_getD_getElem?, List.getElem?_toArray, List.getElem?_cons_succ, List.getElem?_cons_zero, Option.getD_some]
    exact ⟨Sp.fin (Sp.mzf (by decide) HZ.out), trivial⟩
theorem f144_1 (a b : Int) (w : World) (ha : Sp.W64 a) (hb : Sp.W64 b) (hb0 : 0 < (b % 4294967296)) : Calls Try.prog 9 #[.int .u8 144, .int .i16 1, .bool false, .int .u64 a, .int .u64 b] w fun e w' => e = .returned (Sp.res .u64 (Sp.aluW 144 1 false a b)) ∧ w = w' := by
  have HK : Hid (Known 144 1 false) := Lib.hid (by decide)
  obtain ⟨ha1, ha2⟩ := id ha
  obtain ⟨hb1, hb2⟩ := id hb
  have hz2 : ((b % 4294967296) == 0) = false := by simp; omega
  go_enter Try.func9, Try.ntmps9
  go_wp2_with (first | (go_at_call 23; refine (known_yes _ _ _ _ HK).mono ?_; rintro e w' ⟨rfl, rfl⟩) | (go_at_call 74; refine (quot32 _ _ _ (by omega) (by omega) hb0 (by omega)).mono ?_; rintro e w' ⟨rfl, rfl⟩) | (go_at_call 75; refine (rest32 _ _ _ (by omega) (by omega) hb0 (by omega)).mono ?_; rintro e w' ⟨rfl, rfl⟩) | go_in)
  all_goals
    go_ret2
    simp only [Array.getD_eq_getD_getElem?, List.getElem?_toArray, List.getElem?_cons_succ, List.getElem?_cons_zero, Option.getD_some]
    exact ⟨Sp.fin (Sp.f144_1 a b), trivial⟩
theorem f144_1z (a b : Int) (w : World) (ha : Sp.W64 a) (hb : Sp.W64 b) (hz : (b % 4294967296) = 0) : Calls Try.prog 9 #[.int .u8 144, .int .i16 1, .bool false, .int .u64 a, .int .u64 b] w fun e w' => e = .returned (Sp.res .u64 (Sp.aluW 144 1 false a b)) ∧ w = w' := by
  have HK : Hid (Known 144 1 false) := Lib.hid (by decide)
  obtain ⟨ha1, ha2⟩ := id ha
  obtain ⟨hb1, hb2⟩ := id hb
  have hz2 : ((b % 4294967296) == 0) = true := by simpa using hz
  have HZ := Lib.hid hz
  clear hz
  go_enter Try.func9, Try.ntmps9
  go_wp2_with (first | (go_at_call 23; refine (known_yes _ _ _ _ HK).mono ?_; rintro e w' ⟨rfl, rfl⟩) | go_in)
  all_goals
    go_ret2
    simp only [Array.getD_eq_getD_getElem?, List.getElem?_toArray, List.getElem?_cons_succ, List.getElem?_cons_zero, Option.getD_some]
    exact ⟨Sp.fin (Sp.mzf (by decide) HZ.out), trivial⟩
theorem f64_0 (a b : Int) (w : World) (ha : Sp.W64 a) (hb : Sp.W64 b) : Calls Try.prog 9 #[.int .u8 64, .int .i16 0, .bool false, .int .u64 a, .int .u64 b] w fun e w' => e = .returned (Sp.res .u64 (Sp.aluW 64 0 false a b)) ∧ w = w' := by
  have HK : Hid (Known 64 0 false) := Lib.hid (by decide)
  obtain ⟨ha1, ha2⟩ := id ha
  obtain ⟨hb1, hb2⟩ := id hb
  go_enter Try.func9, Try.ntmps9
  go_wp2_with (first | (go_at_call 23; refine (known_yes _ _ _ _ HK).mono ?_; rintro e w' ⟨rfl, rfl⟩) | go_in)
  all_goals
    go_ret2
    simp only [Array.getD_eq_getD_getElem?, List.getElem?_toArray, List.getElem?_cons_succ, List.getElem?_cons_zero, Option.getD_some]
    exact ⟨Sp.fin (Sp.f64_0 a b), trivial⟩
theorem f80_0 (a b : Int) (w : World) (ha : Sp.W64 a) (hb : Sp.W64 b) : Calls Try.prog 9 #[.int .u8 80, .int .i16 0, .bool false, .int .u64 a, .int .u64 b] w fun e w' => e = .returned (Sp.res .u64 (Sp.aluW 80 0 false a b)) ∧ w = w' := by
  have HK : Hid (Known 80 0 false) := Lib.hid (by decide)
  obtain ⟨ha1, ha2⟩ := id ha
  obtain ⟨hb1, hb2⟩ := id hb
  go_enter Try.func9, Try.ntmps9
  go_wp2_with (first | (go_at_call 23; refine (known_yes _ _ _ _ HK).mono ?_; rintro e w' ⟨rfl, rfl⟩) | go_in)
  all_goals
    go_ret2
    simp only [Array.getD_eq_getD_getElem?, List.getElem?_toArray, List.getElem?_cons_succ, List.getElem?_cons_zero, Option.getD_some]
    exact ⟨Sp.fin (Sp.f80_0 a b), trivial⟩
theorem f160_0 (a b : Int) (w : World) (ha : Sp.W64 a) (hb : Sp.W64 b) : Calls Try.prog 9 #[.int .u8 160, .int .i16 0, .bool false, .int .u64 a, .int .u64 b] w fun e w' => e = .returned (Sp.res .u64 (Sp.aluW 160 0 false a b)) ∧ w = w' := by
  have HK : Hid (Known 160 0 false) := Lib.hid (by decide)
  obtain ⟨ha1, ha2⟩ := id ha
  obtain ⟨hb1, hb2⟩ := id hb
  go_enter Try.func9, Try.ntmps9
  go_wp2_with (first | (go_at_call 23; refine (known_yes _ _ _ _ HK).mono ?_; rintro e w' ⟨rfl, rfl⟩) | go_in)
  all_goals
    go_ret2
    simp only [Array.getD_eq_getD_getElem?, List.getElem?_toArray, List.getElem?_cons_succ, List.getElem?_cons_zero, Option.getD_some]
    exact ⟨Sp.fin (Sp.f160_0 a b), trivial⟩
theorem f96_0 (a b : Int) (w : World) (ha : Sp.W64 a) (hb : Sp.W64 b) : Calls Try.prog 9 #[.int .u8 96, .int .i16 0, .bool false, .int .u64 a, .int .u64 b] w fun e w' => e = .returned (Sp.res .u64 (Sp.aluW 96 0 false a b)) ∧ w = w' := by
  have HK : Hid (Known 96 0 false) := Lib.hid (by decide)
  obtain ⟨ha1, ha2⟩ := id ha
  obtain ⟨hb1, hb2⟩ := id hb
  go_enter Try.func9, Try.ntmps9
  go_wp2_with (first | (go_at_call 23; refine (known_yes _ _ _ _ HK).mono ?_; rintro e w' ⟨rfl, rfl⟩) | go_in)
  all_goals
    go_ret2
    simp only [Array.getD_eq_getD_getElem?, List.getElem?_toArray, List.getElem?_cons_succ, List.getElem?_cons_zero, Option.getD_some]
    exact ⟨Sp.fin (Sp.f96_0 a b), trivial⟩
theorem f112_0 (a b : Int) (w : World) (ha : Sp.W64 a) (hb : Sp.W64 b) : Calls Try.prog 9 #[.int .u8 112, .int .i16 0, .bool false, .int .u64 a, .int .u64 b] w fun e w' => e = .returned (Sp.res .u64 (Sp.aluW 112 0 false a b)) ∧ w = w' := by
  have HK : Hid (Known 112 0 false) := Lib.hid (by decide)
  obtain ⟨ha1, ha2⟩ := id ha
  obtain ⟨hb1, hb2⟩ := id hb
  go_enter Try.func9, Try.ntmps9
  go_wp2_with (first | (go_at_call 23; refine (known_yes _ _ _ _ HK).mono ?_; rintro e w' ⟨rfl, rfl⟩) | go_in)
  all_goals
    go_ret2
    simp only [Array.getD_eq_getD_getElem?, List.getElem?_toArray, List.getElem?_cons_succ, List.getElem?_cons_zero, Option.getD_some]
    exact ⟨Sp.fin (Sp.f112_0 a b), trivial⟩
theorem f192_0 (a b : Int) (w : World) (ha : Sp.W64 a) (hb : Sp.W64 b) : Calls Try.prog 9 #[.int .u8 192, .int .i16 0, .bool false, .int .u64 a, .int .u64 b] w fun e w' => e = .returned (Sp.res .u64 (Sp.aluW 192 0 false a b)) ∧ w = w' := by
  have HK : Hid (Known 192 0 false) := Lib.hid (by decide)
  obtain ⟨ha1, ha2⟩ := id ha
  obtain ⟨hb1, hb2⟩ := id hb
  go_enter Try.func9, Try.ntmps9
  go_wp2_with (first | (go_at_call 23; refine (known_yes _ _ _ _ HK).mono ?_; rintro e w' ⟨rfl, rfl⟩) | (go_at_call 27; refine (arsh32 _ _ _ (by omega) (by omega) (by omega) (by omega)).mono ?_; rintro e w' ⟨rfl, rfl⟩) | go_in)
  all_goals
    go_ret2
    simp only [Array.getD_eq_getD_getElem?, List.getElem?_toArray, List.getElem?_cons_succ, List.getElem?_cons_zero, Option.getD_some]
    exact ⟨Sp.fin (Sp.f192_0 a b), trivial⟩
theorem f128_0 (a b : Int) (w : World) (ha : Sp.W64 a) (hb : Sp.W64 b) : Calls Try.prog 9 #[.int .u8 128, .int .i16 0, .bool false, .int .u64 a, .int .u64 b] w fun e w' => e = .returned (Sp.res .u64 (Sp.aluW 128 0 false a b)) ∧ w = w' := by
  have HK : Hid (Known 128 0 false) := Lib.hid (by decide)
  obtain ⟨ha1, ha2⟩ := id ha
  obtain ⟨hb1, hb2⟩ := id hb
  go_enter Try.func9, Try.ntmps9
  go_wp2_with (first | (go_at_call 23; refine (known_yes _ _ _ _ HK).mono ?_; rintro e w' ⟨rfl, rfl⟩) | go_in)
  all_goals
    go_ret2
    simp only [Array.getD_eq_getD_getElem?, List.getElem?_toArray, List.getElem?_cons_succ, List.getElem?_cons_zero, Option.getD_some]
    exact ⟨Sp.fin (Sp.f128_0 a b), trivial⟩
theorem f176_0 (a b : Int) (w : World) (ha : Sp.W64 a) (hb : Sp.W64 b) : Calls Try.prog 9 #[.int .u8 176, .int .i16 0, .bool false, .int .u64 a, .int .u64 b] w fun e w' => e = .returned (Sp.res .u64 (Sp.aluW 176 0 false a b)) ∧ w = w' := by
  have HK : Hid (Known 176 0 false) := Lib.hid (by decide)
  obtain ⟨ha1, ha2⟩ := id ha
  obtain ⟨hb1, hb2⟩ := id hb
  go_enter Try.func9, Try.ntmps9
  go_wp2_with (first | (go_at_call 23; refine (known_yes _ _ _ _ HK).mono ?_; rintro e w' ⟨rfl, rfl⟩) | go_in)
  all_goals
    go_ret2
    simp only [Array.getD_eq_getD_getElem?, List.getElem?_toArray, List.getElem?_cons_succ, List.getElem?_cons_zero, Option.getD_some]
    exact ⟨Sp.fin (Sp.f176_0 a b), trivial⟩
theorem f176_8 (a b : Int) (w : World) (ha : Sp.W64 a) (hb : Sp.W64 b) : Calls Try.prog 9 #[.int .u8 176, .int .i16 8, .bool false, .int .u64 a, .int .u64 b] w fun e w' => e = .returned (Sp.res .u64 (Sp.aluW 176 8 false a b)) ∧ w = w' := by
  have HK : Hid (Known 176 8 false) := Lib.hid (by decide)
  obtain ⟨ha1, ha2⟩ := id ha
  obtain ⟨hb1, hb2⟩ := id hb
  go_enter Try.func9, Try.ntmps9
  go_wp2_with (first | (go_at_call 23; refine (known_yes _ _ _ _ HK).mono ?_; rintro e w' ⟨rfl, rfl⟩) | go_in)
  all_goals
    go_ret2
    simp only [Array.getD_eq_getD_getElem?, List.getElem?_toArray, List.getElem?_cons_succ, List.getElem?_cons_zero, Option.getD_some]
    first | exact ⟨Sp.fin (Sp.f176_8y a b ‹_›), trivial⟩ | exact ⟨Sp.fin (Sp.f176_8n a b ‹_›), trivial⟩
theorem f176_16 (a b : Int) (w : World) (ha : Sp.W64 a) (hb : Sp.W64 b) : Calls Try.prog 9 #[.int .u8 176, .int .i16 16, .bool false, .int .u64 a, .int .u64 b] w fun e w' => e = .returned (Sp.res .u64 (Sp.aluW 176 16 false a b)) ∧ w = w' := by
  have HK : Hid (Known 176 16 false) := Lib.hid (by decide)
  obtain ⟨ha1, ha2⟩ := id ha
  obtain ⟨hb1, hb2⟩ := id hb
  go_enter Try.func9, Try.ntmps9
  go_wp2_with (first | (go_at_call 23; refine (known_yes _ _ _ _ HK).mono ?_; rintro e w' ⟨rfl, rfl⟩) | go_in)
  all_goals
    go_ret2
    simp only [Array.getD_eq_getD_getElem?, List.getElem?_toArray, List.getElem?_cons_succ, List.getElem?_cons_zero, Option.getD_some]
    first | exact ⟨Sp.fin (Sp.f176_16y a b ‹_›), trivial⟩ | exact ⟨Sp.fin (Sp.f176_16n a b ‹_›), trivial⟩
theorem t0_0 (a b : Int) (w : World) (ha : Sp.W64 a) (hb : Sp.W64 b) : Calls Try.prog 9 #[.int .u8 0, .int .i16 0, .bool true, .int .u64 a, .int .u64 b] w fun e w' => e = .returned (Sp.res .u64 (Sp.aluW 0 0 true a b)) ∧ w = w' := by
  have HK : Hid (Known 0 0 true) := Lib.hid (by decide)
  obtain ⟨ha1, ha2⟩ := id ha
  obtain ⟨hb1, hb2⟩ := id hb
  go_enter Try.func9, Try.ntmps9
  go_wp2_with (first | (go_at_call 23; refine (known_yes _ _ _ _ HK).mono ?_; rintro e w' ⟨rfl, rfl⟩) | go_in)
  all_goals
    go_ret2
    simp only [Array.getD_eq_getD_getElem?, List.getElem?_toArray, List.getElem?_cons_succ, List.getElem?_cons_zero, Option.getD_some]
    exact ⟨Sp.fin (Sp.t0_0 a b), trivial⟩
theorem t16_0 (a b : Int) (w : World) (ha : Sp.W64 a) (hb : Sp.W64 b) : Calls Try.prog 9 #[.int .u8 16, .int .i16 0, .bool true, .int .u64 a, .int .u64 b] w fun e w' => e = .returned (Sp.res .u64 (Sp.aluW 16 0 true a b)) ∧ w = w' := by
  have HK : Hid (Known 16 0 true) := Lib.hid (by decide)
  obtain ⟨ha1, ha2⟩ := id ha
  obtain ⟨hb1, hb2⟩ := id hb
  go_enter Try.func9, Try.ntmps9
  go_wp2_with (first | (go_at_call 23; refine (known_yes _ _ _ _ HK).mono ?_; rintro e w' ⟨rfl, rfl⟩) | go_in)
  all_goals
    go_ret2
    simp only [Array.getD_eq_getD_getElem?, List.getElem?_toArray, List.getElem?_cons_succ, List.getElem?_cons_zero, Option.getD_some]
    exact ⟨Sp.fin (Sp.t16_0 a b), trivial⟩
theorem t32_0 (a b : Int) (w : World) (ha : Sp.W64 a) (hb : Sp.W64 b) : Calls Try.prog 9 #[.int .u8 32, .int .i16 0, .bool true, .int .u64 a, .int .u64 b] w fun e w' => e = .returned (Sp.res .u64 (Sp.aluW 32 0 true a b)) ∧ w = w' := by
  have HK : Hid (Known 32 0 true) := Lib.hid (by decide)
  obtain ⟨ha1, ha2⟩ := id ha
  obtain ⟨hb1, hb2⟩ := id hb
  go_enter Try.func9, Try.ntmps9
  go_wp2_with (first | (go_at_call 23; refine (known_yes _ _ _ _ HK).mono ?_; rintro e w' ⟨rfl, rfl⟩) | (go_at_call 25; refine (times _ _ _ (by first | assumption | exact ⟨by omega, by omega⟩) (by first | assumption | exact ⟨by omega, by omega⟩)).mono ?_; rintro e w' ⟨rfl, rfl⟩) | go_in)
  all_goals
    go_ret2
    simp only [Array.getD_eq_getD_getElem?, List.getElem?_toArray, List.getElem?_cons_succ, List.getElem?_cons_zero, Option.getD_some]
    exact ⟨Sp.fin (Sp.t32_0 a b), trivial⟩
theorem t48_0 (a b : Int) (w : World) (ha : Sp.W64 a) (hb : Sp.W64 b) (hb0 : 0 < b) : Calls Try.prog 9 #[.int .u8 48, .int .i16 0, .bool true, .int .u64 a, .int .u64 b] w fun e w' => e = .returned (Sp.res .u64 (Sp.aluW 48 0 true a b)) ∧ w = w' := by
  have HK : Hid (Known 48 0 true) := Lib.hid (by decide)
  obtain ⟨ha1, ha2⟩ := id ha
  obtain ⟨hb1, hb2⟩ := id hb
  have hz2 : (b == 0) = false := by simp; omega
  go_enter Try.func9, Try.ntmps9
  go_wp2_with (first | (go_at_call 23; refine (known_yes _ _ _ _ HK).mono ?_; rintro e w' ⟨rfl, rfl⟩) | (go_at_call 74; refine (quot64 _ _ _ ha hb hb0).mono ?_; rintro e w' ⟨rfl, rfl⟩) | (go_at_call 75; refine (rest64 _ _ _ ha hb hb0).mono ?_; rintro e w' ⟨rfl, rfl⟩) | go_in)
  all_goals
    go_ret2
    simp only [Array.getD_eq_getD_getElem?, List.getElem?_toArray, List.getElem?_cons_succ, List.getElem?_cons_zero, Option.getD_some]
    exact ⟨Sp.fin (Sp.t48_0 ha hb), trivial⟩
theorem t48_0z (a b : Int) (w : World) (ha : Sp.W64 a) (hb : Sp.W64 b) (hz : b = 0) : Calls Try.prog 9 #[.int .u8 48, .int .i16 0, .bool true, .int .u64 a, .int .u64 b] w fun e w' => e = .returned (Sp.res .u64 (Sp.aluW 48 0 true a b)) ∧ w = w' := by
  have HK : Hid (Known 48 0 true) := Lib.hid (by decide)
  obtain ⟨ha1, ha2⟩ := id ha
  obtain ⟨hb1, hb2⟩ := id hb
  subst hz
  go_enter Try.func9, Try.ntmps9
  go_wp2_with (first | (go_at_call 23; refine (known_yes _ _ _ _ HK).mono ?_; rintro e w' ⟨rfl, rfl⟩) | go_in)
  all_goals
    go_ret2
    simp only [Array.getD_eq_getD_getElem?, List.getElem?_toArray, List.getElem?_cons_succ, List.getElem?_cons_zero, Option.getD_some]
    exact ⟨Sp.fin (Sp.dz true (by decide) (by simp [Sp.md]) (fun _ => rfl)), trivial⟩
theorem t48_1 (a b : Int) (w : World) (ha : Sp.W64 a) (hb : Sp.W64 b) (hb0 : 0 < b) : Calls Try.prog 9 #[.int .u8 48, .int .i16 1, .bool true, .int .u64 a, .int .u64 b] w fun e w' => e = .returned (Sp.res .u64 (Sp.aluW 48 1 true a b)) ∧ w = w' := by
  have HK : Hid (Known 48 1 true) := Lib.hid (by decide)
  obtain ⟨ha1, ha2⟩ := id ha
  obtain ⟨hb1, hb2⟩ := id hb
  have hz2 : (b == 0) = false := by simp; omega
  go_enter Try.func9, Try.ntmps9
  go_wp2_with (first | (go_at_call 23; refine (known_yes _ _ _ _ HK).mono ?_; rintro e w' ⟨rfl, rfl⟩) | (go_at_call 74; refine (quot64 _ _ _ ha hb hb0).mono ?_; rintro e w' ⟨rfl, rfl⟩) | (go_at_call 75; refine (rest64 _ _ _ ha hb hb0).mono ?_; rintro e w' ⟨rfl, rfl⟩) | go_in)
  all_goals
    go_ret2
    simp only [Array.getD_eq_getD_getElem?, List.getElem?_toArray, List.getElem?_cons_succ, List.getElem?_cons_zero, Option.getD_some]
    exact ⟨Sp.fin (Sp.t48_1 a b), trivial⟩
theorem t48_1z (a b : Int) (w : World) (ha : Sp.W64 a) (hb : Sp.W64 b) (hz : b = 0) : Calls Try.prog 9 #[.int .u8 48, .int .i16 1, .bool true, .int .u64 a, .int .u64 b] w fun e w' => e = .returned (Sp.res .u64 (Sp.aluW 48 1 true a b)) ∧ w = w' := by
  have HK : Hid (Known 48 1 true) := Lib.hid (by decide)
  obtain ⟨ha1, ha2⟩ := id ha
  obtain ⟨hb1, hb2⟩ := id hb
  subst hz
  go_enter Try.func9, Try.ntmps9
  go_wp2_with (first | (go_at_call 23; refine (known_yes _ _ _ _ HK).mono ?_; rintro e w' ⟨rfl, rfl⟩) | go_in)
  all_goals
    go_ret2
    simp only [Array.getD_eq_getD_getElem?, List.getElem?_toArray, List.getElem?_cons_succ, List.getElem?_cons_zero, Option.getD_some]
    exact ⟨Sp.fin (Sp.dz true (by decide) (by simp [Sp.md]) (fun _ => rfl)), trivial⟩
theorem t144_0 (a b : Int) (w : World) (ha : Sp.W64 a) (hb : Sp.W64 b) (hb0 : 0 < b) : Calls Try.prog 9 #[.int .u8 144, .int .i16 0, .bool true, .int .u64 a, .int .u64 b] w fun e w' => e = .returned (Sp.res .u64 (Sp.aluW 144 0 true a b)) ∧ w = w' := by
  have HK : Hid (Known 144 0 true) := Lib.hid (by decide)
  obtain ⟨ha1, ha2⟩ := id ha
  obtain ⟨hb1, hb2⟩ := id hb
  have hz2 : (b == 0) = false := by simp; omega
  go_enter Try.func9, Try.ntmps9
  go_wp2_with (first | (go_at_call 23; refine (known_yes _ _ _ _ HK).mono ?_; rintro e w' ⟨rfl, rfl⟩) | (go_at_call 74; refine (quot64 _ _ _ ha hb hb0).mono ?_; rintro e w' ⟨rfl, rfl⟩) | (go_at_call 75; refine (rest64 _ _ _ ha hb hb0).mono ?_; rintro e w' ⟨rfl, rfl⟩) | go_in)
  all_goals
    go_ret2
    simp only [Array.getD_eq_getD_getElem?, List.getElem?_toArray, List.getElem?_cons_succ, List.getElem?_cons_zero, Option.getD_some]
    exact ⟨Sp.fin (Sp.t144_0 a b), trivial⟩
theorem t144_0z (a b : Int) (w : World) (ha : Sp.W64 a) (hb : Sp.W64 b) (hz : b = 0) : Calls Try.prog 9 #[.int .u8 144, .int .i16 0, .bool true, .int .u64 a, .int .u64 b] w fun e w' => e = .returned (Sp.res .u64 (Sp.aluW 144 0 true a b)) ∧ w = w' := by
  have HK : Hid (Known 144 0 true) := Lib.hid (by decide)
  obtain ⟨ha1, ha2⟩ := id ha
  obtain ⟨hb1, hb2⟩ := id hb
  subst hz
  go_enter Try.func9, Try.ntmps9
  go_wp2_with (first | (go_at_call 23; refine (known_yes _ _ _ _ HK).mono ?_; rintro e w' ⟨rfl, rfl⟩) | go_in)
  all_goals
    go_ret2
    simp only [Array.getD_eq_getD_getElem?, List.getElem?_toArray, List.getElem?_cons_succ, List.getElem?_cons_zero, Option.getD_some]
    exact ⟨Sp.fin (Sp.mzt (by decide) ha), trivial⟩
theorem t144_1 (a b : Int) (w : World) (ha : Sp.W64 a) (hb : Sp.W64 b) (hb0 : 0 < b) : Calls Try.prog 9 #[.int .u8 144, .int .i16 1, .bool true, .int .u64 a, .int .u64 b] w fun e w' => e = .returned (Sp.res .u64 (Sp.aluW 144 1 true a b)) ∧ w = w' := by
  have HK : Hid (Known 144 1 true) := Lib.hid (by decide)
  obtain ⟨ha1, ha2⟩ := id ha
  obtain ⟨hb1, hb2⟩ := id hb
  have hz2 : (b == 0) = false := by simp; omega
  go_enter Try.func9, Try.ntmps9
  go_wp2_with (first | (go_at_call 23; refine (known_yes _ _ _ _ HK).mono ?_; rintro e w' ⟨rfl, rfl⟩) | (go_at_call 74; refine (quot64 _ _ _ ha hb hb0).mono ?_; rintro e w' ⟨rfl, rfl⟩) | (go_at_call 75; refine (rest64 _ _ _ ha hb hb0).mono ?_; rintro e w' ⟨rfl, rfl⟩) | go_in)
  all_goals
    go_ret2
    simp only [Array.getD_eq_getD_getElem?, List.getElem?_toArray, List.getElem?_cons_succ, List.getElem?_cons_zero, Option.getD_some]
    exact ⟨Sp.fin (Sp.t144_1 a b), trivial⟩
theorem t144_1z (a b : Int) (w : World) (ha : Sp.W64 a) (hb : Sp.W64 b) (hz : b = 0) : Calls Try.prog 9 #[.int .u8 144, .int .i16 1, .bool true, .int .u64 a, .int .u64 b] w fun e w' => e = .returned (Sp.res .u64 (Sp.aluW 144 1 true a b)) ∧ w = w' := by
  have HK : Hid (Known 144 1 true) := Lib.hid (by decide)
  obtain ⟨ha1, ha2⟩ := id ha
  obtain ⟨hb1, hb2⟩ := id hb
  subst hz
  go_enter Try.func9, Try.ntmps9
  go_wp2_with (first | (go_at_call 23; refine (known_yes _ _ _ _ HK).mono ?_; rintro e w' ⟨rfl, rfl⟩) | go_in)
  all_goals
    go_ret2
    simp only [Array.getD_eq_getD_getElem?, List.getElem?_toArray, List.getElem?_cons_succ, List.getElem?_cons_zero, Option.getD_some]
    exact ⟨Sp.fin (Sp.mzt (by decide) ha), trivial⟩
theorem t64_0 (a b : Int) (w : World) (ha : Sp.W64 a) (hb : Sp.W64 b) : Calls Try.prog 9 #[.int .u8 64, .int .i16 0, .bool true, .int .u64 a, .int .u64 b] w fun e w' => e = .returned (Sp.res .u64 (Sp.aluW 64 0 true a b)) ∧ w = w' := by
  have HK : Hid (Known 64 0 true) := Lib.hid (by decide)
  obtain ⟨ha1, ha2⟩ := id ha
  obtain ⟨hb1, hb2⟩ := id hb
  go_enter Try.func9, Try.ntmps9
  go_wp2_with (first | (go_at_call 23; refine (known_yes _ _ _ _ HK).mono ?_; rintro e w' ⟨rfl, rfl⟩) | go_in)
  all_goals
    go_ret2
    simp only [Array.getD_eq_getD_getElem?, List.getElem?_toArray, List.getElem?_cons_succ, List.getElem?_cons_zero, Option.getD_some]
    exact ⟨Sp.fin (Sp.t64_0 a b), trivial⟩
theorem t80_0 (a b : Int) (w : World) (ha : Sp.W64 a) (hb : Sp.W64 b) : Calls Try.prog 9 #[.int .u8 80, .int .i16 0, .bool true, .int .u64 a, .int .u64 b] w fun e w' => e = .returned (Sp.res .u64 (Sp.aluW 80 0 true a b)) ∧ w = w' := by
  have HK : Hid (Known 80 0 true) := Lib.hid (by decide)
  obtain ⟨ha1, ha2⟩ := id ha
  obtain ⟨hb1, hb2⟩ := id hb
  go_enter Try.func9, Try.ntmps9
  go_wp2_with (first | (go_at_call 23; refine (known_yes _ _ _ _ HK).mono ?_; rintro e w' ⟨rfl, rfl⟩) | go_in)
  all_goals
    go_ret2
    simp only [Array.getD_eq_getD_getElem?, List.getElem?_toArray, List.getElem?_cons_succ, List.getElem?_cons_zero, Option.getD_some]
    exact ⟨Sp.fin (Sp.t80_0 a b), trivial⟩
theorem t160_0 (a b : Int) (w : World) (ha : Sp.W64 a) (hb : Sp.W64 b) : Calls Try.prog 9 #[.int .u8 160, .int .i16 0, .bool true, .int .u64 a, .int .u64 b] w fun e w' => e = .returned (Sp.res .u64 (Sp.aluW 160 0 true a b)) ∧ w = w' := by
  have HK : Hid (Known 160 0 true) := Lib.hid (by decide)
  obtain ⟨ha1, ha2⟩ := id ha
  obtain ⟨hb1, hb2⟩ := id hb
  go_enter Try.func9, Try.ntmps9
  go_wp2_with (first | (go_at_call 23; refine (known_yes _ _ _ _ HK).mono ?_; rintro e w' ⟨rfl, rfl⟩) | go_in)
  all_goals
    go_ret2
    simp only [Array.getD_eq_getD_getElem?, List.getElem?_toArray, List.getElem?_cons_succ, List.getElem?_cons_zero, Option.getD_some]
    exact ⟨Sp.fin (Sp.t160_0 a b), trivial⟩
theorem t96_0 (a b : Int) (w : World) (ha : Sp.W64 a) (hb : Sp.W64 b) : Calls Try.prog 9 #[.int .u8 96, .int .i16 0, .bool true, .int .u64 a, .int .u64 b] w fun e w' => e = .returned (Sp.res .u64 (Sp.aluW 96 0 true a b)) ∧ w = w' := by
  have HK : Hid (Known 96 0 true) := Lib.hid (by decide)
  obtain ⟨ha1, ha2⟩ := id ha
  obtain ⟨hb1, hb2⟩ := id hb
  go_enter Try.func9, Try.ntmps9
  go_wp2_with (first | (go_at_call 23; refine (known_yes _ _ _ _ HK).mono ?_; rintro e w' ⟨rfl, rfl⟩) | go_in)
  all_goals
    go_ret2
    simp only [Array.getD_eq_getD_getElem?, List.getElem?_toArray, List.getElem?_cons_succ, List.getElem?_cons_zero, Option.getD_some]
    exact ⟨Sp.fin (Sp.t96_0 a b), trivial⟩
theorem t112_0 (a b : Int) (w : World) (ha : Sp.W64 a) (hb : Sp.W64 b) : Calls Try.prog 9 #[.int .u8 112, .int .i16 0, .bool true, .int .u64 a, .int .u64 b] w fun e w' => e = .returned (Sp.res .u64 (Sp.aluW 112 0 true a b)) ∧ w = w' := by
  have HK : Hid (Known 112 0 true) := Lib.hid (by decide)
  obtain ⟨ha1, ha2⟩ := id ha
  obtain ⟨hb1, hb2⟩ := id hb
  go_enter Try.func9, Try.ntmps9
  go_wp2_with (first | (go_at_call 23; refine (known_yes _ _ _ _ HK).mono ?_; rintro e w' ⟨rfl, rfl⟩) | go_in)
  all_goals
    go_ret2
    simp only [Array.getD_eq_getD_getElem?, List.getElem?_toArray, List.getElem?_cons_succ, List.getElem?_cons_zero, Option.getD_some]
    exact ⟨Sp.fin (Sp.t112_0 a b), trivial⟩
theorem t192_0 (a b : Int) (w : World) (ha : Sp.W64 a) (hb : Sp.W64 b) : Calls Try.prog 9 #[.int .u8 192, .int .i16 0, .bool true, .int .u64 a, .int .u64 b] w fun e w' => e = .returned (Sp.res .u64 (Sp.aluW 192 0 true a b)) ∧ w = w' := by
  have HK : Hid (Known 192 0 true) := Lib.hid (by decide)
  obtain ⟨ha1, ha2⟩ := id ha
  obtain ⟨hb1, hb2⟩ := id hb
  go_enter Try.func9, Try.ntmps9
  go_wp2_with (first | (go_at_call 23; refine (known_yes _ _ _ _ HK).mono ?_; rintro e w' ⟨rfl, rfl⟩) | (go_at_call 27; refine (arsh64 _ _ _ ha (by omega) (by omega)).mono ?_; rintro e w' ⟨rfl, rfl⟩) | go_in)
  all_goals
    go_ret2
    simp only [Array.getD_eq_getD_getElem?, List.getElem?_toArray, List.getElem?_cons_succ, List.getElem?_cons_zero, Option.getD_some]
    exact ⟨Sp.fin (Sp.t192_0 a b), trivial⟩
theorem t128_0 (a b : Int) (w : World) (ha : Sp.W64 a) (hb : Sp.W64 b) : Calls Try.prog 9 #[.int .u8 128, .int .i16 0, .bool true, .int .u64 a, .int .u64 b] w fun e w' => e = .returned (Sp.res .u64 (Sp.aluW 128 0 true a b)) ∧ w = w' := by
  have HK : Hid (Known 128 0 true) := Lib.hid (by decide)
  obtain ⟨ha1, ha2⟩ := id ha
  obtain ⟨hb1, hb2⟩ := id hb
  go_enter Try.func9, Try.ntmps9
  go_wp2_with (first | (go_at_call 23; refine (known_yes _ _ _ _ HK).mono ?_; rintro e w' ⟨rfl, rfl⟩) | go_in)
  all_goals
    go_ret2
    simp only [Array.getD_eq_getD_getElem?, List.getElem?_toArray, List.getElem?_cons_succ, List.getElem?_cons_zero, Option.getD_some]
    exact ⟨Sp.fin (Sp.t128_0 a b), trivial⟩
theorem t176_0 (a b : Int) (w : World) (ha : Sp.W64 a) (hb : Sp.W64 b) : Calls Try.prog 9 #[.int .u8 176, .int .i16 0, .bool true, .int .u64 a, .int .u64 b] w fun e w' => e = .returned (Sp.res .u64 (Sp.aluW 176 0 true a b)) ∧ w = w' := by
  have HK : Hid (Known 176 0 true) := Lib.hid (by decide)
  obtain ⟨ha1, ha2⟩ := id ha
  obtain ⟨hb1, hb2⟩ := id hb
  go_enter Try.func9, Try.ntmps9
  go_wp2_with (first | (go_at_call 23; refine (known_yes _ _ _ _ HK).mono ?_; rintro e w' ⟨rfl, rfl⟩) | go_in)
  all_goals
    go_ret2
    simp only [Array.getD_eq_getD_getElem?, List.getElem?_toArray, List.getElem?_cons_succ, List.getElem?_cons_zero, Option.getD_some]
    exact ⟨Sp.fin (Sp.t176_0 a b), trivial⟩
theorem t176_8 (a b : Int) (w : World) (ha : Sp.W64 a) (hb : Sp.W64 b) : Calls Try.prog 9 #[.int .u8 176, .int .i16 8, .bool true, .int .u64 a, .int .u64 b] w fun e w' => e = .returned (Sp.res .u64 (Sp.aluW 176 8 true a b)) ∧ w = w' := by
  have HK : Hid (Known 176 8 true) := Lib.hid (by decide)
  obtain ⟨ha1, ha2⟩ := id ha
  obtain ⟨hb1, hb2⟩ := id hb
  go_enter Try.func9, Try.ntmps9
  go_wp2_with (first | (go_at_call 23; refine (known_yes _ _ _ _ HK).mono ?_; rintro e w' ⟨rfl, rfl⟩) | go_in)
  all_goals
    go_ret2
    simp only [Array.getD_eq_getD_getElem?, List.getElem?_toArray, List.getElem?_cons_succ, List.getElem?_cons_zero, Option.getD_some]
    first | exact ⟨Sp.fin (Sp.t176_8y a b ‹_›), trivial⟩ | exact ⟨Sp.fin (Sp.t176_8n a b ‹_›), trivial⟩
theorem t176_16 (a b : Int) (w : World) (ha : Sp.W64 a) (hb : Sp.W64 b) : Calls Try.prog 9 #[.int .u8 176, .int .i16 16, .bool true, .int .u64 a, .int .u64 b] w fun e w' => e = .returned (Sp.res .u64 (Sp.aluW 176 16 true a b)) ∧ w = w' := by
  have HK : Hid (Known 176 16 true) := Lib.hid (by decide)
  obtain ⟨ha1, ha2⟩ := id ha
  obtain ⟨hb1, hb2⟩ := id hb
  go_enter Try.func9, Try.ntmps9
  go_wp2_with (first | (go_at_call 23; refine (known_yes _ _ _ _ HK).mono ?_; rintro e w' ⟨rfl, rfl⟩) | go_in)
  all_goals
    go_ret2
    simp only [Array.getD_eq_getD_getElem?, List.getElem?_toArray, List.getElem?_cons_succ, List.getElem?_cons_zero, Option.getD_some]
    first | exact ⟨Sp.fin (Sp.t176_16y a b ‹_›), trivial⟩ | exact ⟨Sp.fin (Sp.t176_16n a b ‹_›), trivial⟩
theorem t176_32 (a b : Int) (w : World) (ha : Sp.W64 a) (hb : Sp.W64 b) : Calls Try.prog 9 #[.int .u8 176, .int .i16 32, .bool true, .int .u64 a, .int .u64 b] w fun e w' => e = .returned (Sp.res .u64 (Sp.aluW 176 32 true a b)) ∧ w = w' := by
  have HK : Hid (Known 176 32 true) := Lib.hid (by decide)
  obtain ⟨ha1, ha2⟩ := id ha
  obtain ⟨hb1, hb2⟩ := id hb
  go_enter Try.func9, Try.ntmps9
  go_wp2_with (first | (go_at_call 23; refine (known_yes _ _ _ _ HK).mono ?_; rintro e w' ⟨rfl, rfl⟩) | go_in)
  all_goals
    go_ret2
    simp only [Array.getD_eq_getD_getElem?, List.getElem?_toArray, List.getElem?_cons_succ, List.getElem?_cons_zero, Option.getD_some]
    first | exact ⟨Sp.fin (Sp.t176_32y a b ‹_›), trivial⟩ | exact ⟨Sp.fin (Sp.t176_32n a b ‹_›), trivial⟩
theorem none_of {op off a b : Int} {wide : Bool} (h : ¬ Known op off wide) : Sp.aluW op off wide a b = none := by
  have key : ∀ x y : Int, Known x y wide → ¬ (op = x ∧ off = y) := fun x y k e => h (by rw [e.1, e.2]; exact k)
  have kd : ∀ x y : Int, (∀ wd, Known x y wd) → ¬ (op = x ∧ off = y) := fun x y k => key x y (k wide)
  have hal : ∀ (M : Int) (S : Int → Int) (W a b : Int), Sp.alu M S W op off a b = none := by
    intro M S W a b
    unfold Sp.alu
    rw [if_neg (kd 0 0 (by decide)), if_neg (kd 16 0 (by decide)), if_neg (kd 32 0 (by decide)), if_neg (kd 48 0 (by decide)), if_neg (kd 48 1 (by decide)), if_neg (kd 144 0 (by decide)), if_neg (kd 144 1 (by decide)), if_neg (kd 64 0 (by decide)), if_neg (kd 80 0 (by decide)), if_neg (kd 160 0 (by decide)), if_neg (kd 96 0 (by decide)), if_neg (kd 112 0 (by decide)), if_neg (kd 192 0 (by decide)), if_neg (kd 128 0 (by decide)), if_neg (kd 176 0 (by decide)), if_neg (kd 176 8 (by decide)), if_neg (kd 176 16 (by decide))]
  unfold Sp.aluW
  cases wide
  · rw [if_pos rfl]; exact hal _ _ _ _ _
  · rw [if_neg (by decide), if_neg (key 176 32 (by decide))]; exact hal _ _ _ _ _
theorem any (op off : Int) (wide : Bool) (a b : Int) (w : World) (ha : Sp.W64 a) (hb : Sp.W64 b) :
    Calls Try.prog 9 #[.int .u8 op, .int .i16 off, .bool wide, .int .u64 a, .int .u64 b] w fun e w' => e = .returned (Sp.res .u64 (Sp.aluW op off wide a b)) ∧ w = w' := by
  by_cases hk : Known op off wide
  · unfold Known at hk
    cases wide
    · rcases hk with ⟨rfl | rfl, rfl | rfl⟩ | ⟨rfl, rfl | rfl | rfl | ⟨rfl, h⟩⟩ | ⟨rfl | rfl | rfl | rfl | rfl | rfl | rfl | rfl | rfl | rfl, rfl⟩
      · by_cases hz : b % 4294967296 = 0
        · exact f48_0z a b w ha hb hz
        · exact f48_0 a b w ha hb (by have := hb.1; omega)
      · by_cases hz : b % 4294967296 = 0
        · exact f48_1z a b w ha hb hz
        · exact f48_1 a b w ha hb (by have := hb.1; omega)
      · by_cases hz : b % 4294967296 = 0
        · exact f144_0z a b w ha hb hz
        · exact f144_0 a b w ha hb (by have := hb.1; omega)
      · by_cases hz : b % 4294967296 = 0
        · exact f144_1z a b w ha hb hz
        · exact f144_1 a b w ha hb (by have := hb.1; omega)
      · exact f176_0 a b w ha hb
      · exact f176_8 a b w ha hb
      · exact f176_16 a b w ha hb
      · cases h
      · exact f0_0 a b w ha hb
      · exact f16_0 a b w ha hb
      · exact f32_0 a b w ha hb
      · exact f64_0 a b w ha hb
      · exact f80_0 a b w ha hb
      · exact f160_0 a b w ha hb
      · exact f96_0 a b w ha hb
      · exact f112_0 a b w ha hb
      · exact f192_0 a b w ha hb
      · exact f128_0 a b w ha hb
    · rcases hk with ⟨rfl | rfl, rfl | rfl⟩ | ⟨rfl, rfl | rfl | rfl | ⟨rfl, h⟩⟩ | ⟨rfl | rfl | rfl | rfl | rfl | rfl | rfl | rfl | rfl | rfl, rfl⟩
      · by_cases hz : b = 0
        · exact t48_0z a b w ha hb hz
        · exact t48_0 a b w ha hb (by have := hb.1; omega)
      · by_cases hz : b = 0
        · exact t48_1z a b w ha hb hz
        · exact t48_1 a b w ha hb (by have := hb.1; omega)
      · by_cases hz : b = 0
        · exact t144_0z a b w ha hb hz
        · exact t144_0 a b w ha hb (by have := hb.1; omega)
      · by_cases hz : b = 0
        · exact t144_1z a b w ha hb hz
        · exact t144_1 a b w ha hb (by have := hb.1; omega)
      · exact t176_0 a b w ha hb
      · exact t176_8 a b w ha hb
      · exact t176_16 a b w ha hb
      · exact t176_32 a b w ha hb
      · exact t0_0 a b w ha hb
      · exact t16_0 a b w ha hb
      · exact t32_0 a b w ha hb
      · exact t64_0 a b w ha hb
      · exact t80_0 a b w ha hb
      · exact t160_0 a b w ha hb
      · exact t96_0 a b w ha hb
      · exact t112_0 a b w ha hb
      · exact t192_0 a b w ha hb
      · exact t128_0 a b w ha hb
  · have e : Sp.aluW op off wide a b = none := none_of hk
    rw [e]
    exact refAlu_no op off wide a b w hk
end Go.Proofs.Ytlhegejfaihgmaa.RefA
