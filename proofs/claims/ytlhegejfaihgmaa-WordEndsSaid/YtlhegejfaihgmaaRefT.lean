/-
  The contracts of the reference's 'above', 'Test', 'Swap' and 'Extend'.
-/
import Derived.Test.YtlhegejfaihgmaaRefKnown
import Derived.Test.YtlhegejfaihgmaaRefSpD
namespace Go.Proofs.Ytlhegejfaihgmaa.RefT
open Go.RowKit RefW
set_option linter.unusedVariables false
theorem aboveU (a b width : Int) (x : Bool) (w : World) (hx : Hid (decide (b < a) = x)) : Calls Try.prog 31 #[.int .u64 a, .int .u64 b, .int .i64 width, .bool false] w fun e w' => e = .returned (.bool x) ∧ w = w' := by
  go_enter Try.func31, Try.ntmps31
  go_wp2
  go_ret
  exact ⟨ret_bool hx.out, rfl⟩

theorem aboveS32 (a b : Int) (x : Bool) (w : World) (ha : 0 ≤ a ∧ a < 4294967296) (hb : 0 ≤ b ∧ b < 4294967296) (hx : Hid (decide (wrap32 b < wrap32 a) = x)) : Calls Try.prog 31 #[.int .u64 a, .int .u64 b, .int .i64 32, .bool true] w fun e w' => e = .returned (.bool x) ∧ w = w' := by
  obtain ⟨p, hp⟩ : ∃ p, decide (wrap32 a < 0) = p := ⟨_, rfl⟩
  obtain ⟨q, hq⟩ : ∃ q, decide (wrap32 b < 0) = q := ⟨_, rfl⟩
  have HX := Lib.hid hp
  have HY := Lib.hid hq
  have HE := Lib.hid ((Sp.above32 p q ha hb hp hq).trans hx.out)
  clear hp hq
  cases p <;> cases q
  all_goals
    go_enter Try.func31, Try.ntmps31
    go_wp2_with (first | (go_at_call 76; first | ((with_reducible refine (neg32 a _ _ ha.1 ha.2 HX).mono ?_); rintro e w' ⟨rfl, rfl⟩) | ((with_reducible refine (neg32 b _ _ hb.1 hb.2 HY).mono ?_); rintro e w' ⟨rfl, rfl⟩)) | go_in)
    go_ret
    exact ⟨ret_bool HE.out, rfl⟩
theorem aboveS64 (a b : Int) (x : Bool) (w : World) (ha : Sp.W64 a) (hb : Sp.W64 b) (hx : Hid (decide (wrap64 b < wrap64 a) = x)) : Calls Try.prog 31 #[.int .u64 a, .int .u64 b, .int .i64 64, .bool true] w fun e w' => e = .returned (.bool x) ∧ w = w' := by
  obtain ⟨p, hp⟩ : ∃ p, decide (wrap64 a < 0) = p := ⟨_, rfl⟩
  obtain ⟨q, hq⟩ : ∃ q, decide (wrap64 b < 0) = q := ⟨_, rfl⟩
  have HX := Lib.hid hp
  have HY := Lib.hid hq
  have HE := Lib.hid ((Sp.above64 p q ha hb hp hq).trans hx.out)
  clear hp hq
  cases p <;> cases q
  all_goals
    go_enter Try.func31, Try.ntmps31
    go_wp2_with (first | (go_at_call 76; first | ((with_reducible refine (neg64 a _ _ ha HX).mono ?_); rintro e w' ⟨rfl, rfl⟩) | ((with_reducible refine (neg64 b _ _ hb HY).mono ?_); rintro e w' ⟨rfl, rfl⟩)) | go_in)
    go_ret
    exact ⟨ret_bool HE.out, rfl⟩
theorem f16 (a b : Int) (w : World) (ha : Sp.W64 a) (hb : Sp.W64 b) : Calls Try.prog 11 #[.int .u8 16, .bool false, .int .u64 a, .int .u64 b] w fun e w' => e = .returned (Sp.resB (Sp.testW 16 false a b)) ∧ w = w' := by
  obtain ⟨ha1, ha2⟩ := id ha
  obtain ⟨hb1, hb2⟩ := id hb
  go_enter Try.func11, Try.ntmps11
  go_wp2_with (go_in)
  go_ret2
  simp only [Array.getD_eq_getD_getElem?, List.getElem?_toArray, List.getElem?_cons_succ, List.getElem?_cons_zero, Option.getD_some]
  exact ⟨Sp.finB ((Sp.tf 16 a b).trans (congrArg some (Sp.c_eq _ _))), trivial⟩
theorem f80 (a b : Int) (w : World) (ha : Sp.W64 a) (hb : Sp.W64 b) : Calls Try.prog 11 #[.int .u8 80, .bool false, .int .u64 a, .int .u64 b] w fun e w' => e = .returned (Sp.resB (Sp.testW 80 false a b)) ∧ w = w' := by
  obtain ⟨ha1, ha2⟩ := id ha
  obtain ⟨hb1, hb2⟩ := id hb
  go_enter Try.func11, Try.ntmps11
  go_wp2_with (go_in)
  go_ret2
  simp only [Array.getD_eq_getD_getElem?, List.getElem?_toArray, List.getElem?_cons_succ, List.getElem?_cons_zero, Option.getD_some]
  exact ⟨Sp.finB ((Sp.tf 80 a b).trans (congrArg some (Sp.c_ne _ _))), trivial⟩
theorem f64 (a b : Int) (w : World) (ha : Sp.W64 a) (hb : Sp.W64 b) : Calls Try.prog 11 #[.int .u8 64, .bool false, .int .u64 a, .int .u64 b] w fun e w' => e = .returned (Sp.resB (Sp.testW 64 false a b)) ∧ w = w' := by
  obtain ⟨ha1, ha2⟩ := id ha
  obtain ⟨hb1, hb2⟩ := id hb
  go_enter Try.func11, Try.ntmps11
  go_wp2_with (go_in)
  go_ret2
  simp only [Array.getD_eq_getD_getElem?, List.getElem?_toArray, List.getElem?_cons_succ, List.getElem?_cons_zero, Option.getD_some]
  exact ⟨Sp.finB ((Sp.tf 64 a b).trans (congrArg some (Sp.and_narrow a b).symm)), trivial⟩
theorem f32 (a b : Int) (w : World) (ha : Sp.W64 a) (hb : Sp.W64 b) : Calls Try.prog 11 #[.int .u8 32, .bool false, .int .u64 a, .int .u64 b] w fun e w' => e = .returned (Sp.resB (Sp.testW 32 false a b)) ∧ w = w' := by
  obtain ⟨ha1, ha2⟩ := id ha
  obtain ⟨hb1, hb2⟩ := id hb
  obtain ⟨x, hx⟩ : ∃ x, decide ((b % 4294967296) < (a % 4294967296)) = x := ⟨_, rfl⟩
  have HX := Lib.hid hx
  clear hx
  go_enter Try.func11, Try.ntmps11
  go_wp2_with ((first | (go_at_call 31; refine (aboveU _ _ _ x _ HX).mono ?_; rintro e w' ⟨rfl, rfl⟩) | go_in))
  go_ret2
  simp only [Array.getD_eq_getD_getElem?, List.getElem?_toArray, List.getElem?_cons_succ, List.getElem?_cons_zero, Option.getD_some]
  exact ⟨Sp.finB ((Sp.tf 32 a b).trans (congrArg some ((Sp.cmp_pos _ _).trans HX.out))), trivial⟩
theorem f160 (a b : Int) (w : World) (ha : Sp.W64 a) (hb : Sp.W64 b) : Calls Try.prog 11 #[.int .u8 160, .bool false, .int .u64 a, .int .u64 b] w fun e w' => e = .returned (Sp.resB (Sp.testW 160 false a b)) ∧ w = w' := by
  obtain ⟨ha1, ha2⟩ := id ha
  obtain ⟨hb1, hb2⟩ := id hb
  obtain ⟨x, hx⟩ : ∃ x, decide ((a % 4294967296) < (b % 4294967296)) = x := ⟨_, rfl⟩
  have HX := Lib.hid hx
  clear hx
  go_enter Try.func11, Try.ntmps11
  go_wp2_with ((first | (go_at_call 31; refine (aboveU _ _ _ x _ HX).mono ?_; rintro e w' ⟨rfl, rfl⟩) | go_in))
  go_ret2
  simp only [Array.getD_eq_getD_getElem?, List.getElem?_toArray, List.getElem?_cons_succ, List.getElem?_cons_zero, Option.getD_some]
  exact ⟨Sp.finB ((Sp.tf 160 a b).trans (congrArg some ((Sp.cmp_neg _ _).trans HX.out))), trivial⟩
theorem f48 (a b : Int) (w : World) (ha : Sp.W64 a) (hb : Sp.W64 b) : Calls Try.prog 11 #[.int .u8 48, .bool false, .int .u64 a, .int .u64 b] w fun e w' => e = .returned (Sp.resB (Sp.testW 48 false a b)) ∧ w = w' := by
  obtain ⟨ha1, ha2⟩ := id ha
  obtain ⟨hb1, hb2⟩ := id hb
  obtain ⟨x, hx⟩ : ∃ x, decide ((a % 4294967296) < (b % 4294967296)) = x := ⟨_, rfl⟩
  have HX := Lib.hid hx
  clear hx
  go_enter Try.func11, Try.ntmps11
  go_wp2_with ((first | (go_at_call 31; refine (aboveU _ _ _ x _ HX).mono ?_; rintro e w' ⟨rfl, rfl⟩) | go_in))
  go_ret2
  simp only [Array.getD_eq_getD_getElem?, List.getElem?_toArray, List.getElem?_cons_succ, List.getElem?_cons_zero, Option.getD_some]
  exact ⟨Sp.finB ((Sp.tf 48 a b).trans (congrArg some ((Sp.c_ge _ _).trans (congrArg Bool.not HX.out)))), trivial⟩
theorem f176 (a b : Int) (w : World) (ha : Sp.W64 a) (hb : Sp.W64 b) : Calls Try.prog 11 #[.int .u8 176, .bool false, .int .u64 a, .int .u64 b] w fun e w' => e = .returned (Sp.resB (Sp.testW 176 false a b)) ∧ w = w' := by
  obtain ⟨ha1, ha2⟩ := id ha
  obtain ⟨hb1, hb2⟩ := id hb
  obtain ⟨x, hx⟩ : ∃ x, decide ((b % 4294967296) < (a % 4294967296)) = x := ⟨_, rfl⟩
  have HX := Lib.hid hx
  clear hx
  go_enter Try.func11, Try.ntmps11
  go_wp2_with ((first | (go_at_call 31; refine (aboveU _ _ _ x _ HX).mono ?_; rintro e w' ⟨rfl, rfl⟩) | go_in))
  go_ret2
  simp only [Array.getD_eq_getD_getElem?, List.getElem?_toArray, List.getElem?_cons_succ, List.getElem?_cons_zero, Option.getD_some]
  exact ⟨Sp.finB ((Sp.tf 176 a b).trans (congrArg some ((Sp.c_le _ _).trans (congrArg Bool.not HX.out)))), trivial⟩
theorem f96 (a b : Int) (w : World) (ha : Sp.W64 a) (hb : Sp.W64 b) : Calls Try.prog 11 #[.int .u8 96, .bool false, .int .u64 a, .int .u64 b] w fun e w' => e = .returned (Sp.resB (Sp.testW 96 false a b)) ∧ w = w' := by
  obtain ⟨ha1, ha2⟩ := id ha
  obtain ⟨hb1, hb2⟩ := id hb
  obtain ⟨x, hx⟩ : ∃ x, decide (wrap32 (b % 4294967296) < wrap32 (a % 4294967296)) = x := ⟨_, rfl⟩
  have HX := Lib.hid hx
  clear hx
  go_enter Try.func11, Try.ntmps11
  go_wp2_with ((first | (go_at_call 31; refine (aboveS32 _ _ x _ (by first | assumption | exact ⟨by omega, by omega⟩) (by first | assumption | exact ⟨by omega, by omega⟩) HX).mono ?_; rintro e w' ⟨rfl, rfl⟩) | go_in))
  go_ret2
  simp only [Array.getD_eq_getD_getElem?, List.getElem?_toArray, List.getElem?_cons_succ, List.getElem?_cons_zero, Option.getD_some]
  exact ⟨Sp.finB ((Sp.tf 96 a b).trans (congrArg some ((Sp.cmp_pos _ _).trans HX.out))), trivial⟩
theorem f192 (a b : Int) (w : World) (ha : Sp.W64 a) (hb : Sp.W64 b) : Calls Try.prog 11 #[.int .u8 192, .bool false, .int .u64 a, .int .u64 b] w fun e w' => e = .returned (Sp.resB (Sp.testW 192 false a b)) ∧ w = w' := by
  obtain ⟨ha1, ha2⟩ := id ha
  obtain ⟨hb1, hb2⟩ := id hb
  obtain ⟨x, hx⟩ : ∃ x, decide (wrap32 (a % 4294967296) < wrap32 (b % 4294967296)) = x := ⟨_, rfl⟩
  have HX := Lib.hid hx
  clear hx
  go_enter Try.func11, Try.ntmps11
  go_wp2_with ((first | (go_at_call 31; refine (aboveS32 _ _ x _ (by first | assumption | exact ⟨by omega, by omega⟩) (by first | assumption | exact ⟨by omega, by omega⟩) HX).mono ?_; rintro e w' ⟨rfl, rfl⟩) | go_in))
  go_ret2
  simp only [Array.getD_eq_getD_getElem?, List.getElem?_toArray, List.getElem?_cons_succ, List.getElem?_cons_zero, Option.getD_some]
  exact ⟨Sp.finB ((Sp.tf 192 a b).trans (congrArg some ((Sp.cmp_neg _ _).trans HX.out))), trivial⟩
theorem f112 (a b : Int) (w : World) (ha : Sp.W64 a) (hb : Sp.W64 b) : Calls Try.prog 11 #[.int .u8 112, .bool false, .int .u64 a, .int .u64 b] w fun e w' => e = .returned (Sp.resB (Sp.testW 112 false a b)) ∧ w = w' := by
  obtain ⟨ha1, ha2⟩ := id ha
  obtain ⟨hb1, hb2⟩ := id hb
  obtain ⟨x, hx⟩ : ∃ x, decide (wrap32 (a % 4294967296) < wrap32 (b % 4294967296)) = x := ⟨_, rfl⟩
  have HX := Lib.hid hx
  clear hx
  go_enter Try.func11, Try.ntmps11
  go_wp2_with ((first | (go_at_call 31; refine (aboveS32 _ _ x _ (by first | assumption | exact ⟨by omega, by omega⟩) (by first | assumption | exact ⟨by omega, by omega⟩) HX).mono ?_; rintro e w' ⟨rfl, rfl⟩) | go_in))
  go_ret2
  simp only [Array.getD_eq_getD_getElem?, List.getElem?_toArray, List.getElem?_cons_succ, List.getElem?_cons_zero, Option.getD_some]
  exact ⟨Sp.finB ((Sp.tf 112 a b).trans (congrArg some ((Sp.c_ge _ _).trans (congrArg Bool.not HX.out)))), trivial⟩
theorem f208 (a b : Int) (w : World) (ha : Sp.W64 a) (hb : Sp.W64 b) : Calls Try.prog 11 #[.int .u8 208, .bool false, .int .u64 a, .int .u64 b] w fun e w' => e = .returned (Sp.resB (Sp.testW 208 false a b)) ∧ w = w' := by
  obtain ⟨ha1, ha2⟩ := id ha
  obtain ⟨hb1, hb2⟩ := id hb
  obtain ⟨x, hx⟩ : ∃ x, decide (wrap32 (b % 4294967296) < wrap32 (a % 4294967296)) = x := ⟨_, rfl⟩
  have HX := Lib.hid hx
  clear hx
  go_enter Try.func11, Try.ntmps11
  go_wp2_with ((first | (go_at_call 31; refine (aboveS32 _ _ x _ (by first | assumption | exact ⟨by omega, by omega⟩) (by first | assumption | exact ⟨by omega, by omega⟩) HX).mono ?_; rintro e w' ⟨rfl, rfl⟩) | go_in))
  go_ret2
  simp only [Array.getD_eq_getD_getElem?, List.getElem?_toArray, List.getElem?_cons_succ, List.getElem?_cons_zero, Option.getD_some]
  exact ⟨Sp.finB ((Sp.tf 208 a b).trans (congrArg some ((Sp.c_le _ _).trans (congrArg Bool.not HX.out)))), trivial⟩
theorem t16 (a b : Int) (w : World) (ha : Sp.W64 a) (hb : Sp.W64 b) : Calls Try.prog 11 #[.int .u8 16, .bool true, .int .u64 a, .int .u64 b] w fun e w' => e = .returned (Sp.resB (Sp.testW 16 true a b)) ∧ w = w' := by
  obtain ⟨ha1, ha2⟩ := id ha
  obtain ⟨hb1, hb2⟩ := id hb
  go_enter Try.func11, Try.ntmps11
  go_wp2_with (go_in)
  go_ret2
  simp only [Array.getD_eq_getD_getElem?, List.getElem?_toArray, List.getElem?_cons_succ, List.getElem?_cons_zero, Option.getD_some]
  exact ⟨Sp.finB ((Sp.tt 16 a b).trans (congrArg some (Sp.c_eq _ _))), trivial⟩
theorem t80 (a b : Int) (w : World) (ha : Sp.W64 a) (hb : Sp.W64 b) : Calls Try.prog 11 #[.int .u8 80, .bool true, .int .u64 a, .int .u64 b] w fun e w' => e = .returned (Sp.resB (Sp.testW 80 true a b)) ∧ w = w' := by
  obtain ⟨ha1, ha2⟩ := id ha
  obtain ⟨hb1, hb2⟩ := id hb
  go_enter Try.func11, Try.ntmps11
  go_wp2_with (go_in)
  go_ret2
  simp only [Array.getD_eq_getD_getElem?, List.getElem?_toArray, List.getElem?_cons_succ, List.getElem?_cons_zero, Option.getD_some]
  exact ⟨Sp.finB ((Sp.tt 80 a b).trans (congrArg some (Sp.c_ne _ _))), trivial⟩
theorem t64 (a b : Int) (w : World) (ha : Sp.W64 a) (hb : Sp.W64 b) : Calls Try.prog 11 #[.int .u8 64, .bool true, .int .u64 a, .int .u64 b] w fun e w' => e = .returned (Sp.resB (Sp.testW 64 true a b)) ∧ w = w' := by
  obtain ⟨ha1, ha2⟩ := id ha
  obtain ⟨hb1, hb2⟩ := id hb
  go_enter Try.func11, Try.ntmps11
  go_wp2_with (go_in)
  go_ret2
  simp only [Array.getD_eq_getD_getElem?, List.getElem?_toArray, List.getElem?_cons_succ, List.getElem?_cons_zero, Option.getD_some]
  exact ⟨Sp.finB ((Sp.tt 64 a b).trans (rfl)), trivial⟩
theorem t32 (a b : Int) (w : World) (ha : Sp.W64 a) (hb : Sp.W64 b) : Calls Try.prog 11 #[.int .u8 32, .bool true, .int .u64 a, .int .u64 b] w fun e w' => e = .returned (Sp.resB (Sp.testW 32 true a b)) ∧ w = w' := by
  obtain ⟨ha1, ha2⟩ := id ha
  obtain ⟨hb1, hb2⟩ := id hb
  obtain ⟨x, hx⟩ : ∃ x, decide (b < a) = x := ⟨_, rfl⟩
  have HX := Lib.hid hx
  clear hx
  go_enter Try.func11, Try.ntmps11
  go_wp2_with ((first | (go_at_call 31; refine (aboveU _ _ _ x _ HX).mono ?_; rintro e w' ⟨rfl, rfl⟩) | go_in))
  go_ret2
  simp only [Array.getD_eq_getD_getElem?, List.getElem?_toArray, List.getElem?_cons_succ, List.getElem?_cons_zero, Option.getD_some]
  exact ⟨Sp.finB ((Sp.tt 32 a b).trans (congrArg some ((Sp.cmp_pos _ _).trans HX.out))), trivial⟩
theorem t160 (a b : Int) (w : World) (ha : Sp.W64 a) (hb : Sp.W64 b) : Calls Try.prog 11 #[.int .u8 160, .bool true, .int .u64 a, .int .u64 b] w fun e w' => e = .returned (Sp.resB (Sp.testW 160 true a b)) ∧ w = w' := by
  obtain ⟨ha1, ha2⟩ := id ha
  obtain ⟨hb1, hb2⟩ := id hb
  obtain ⟨x, hx⟩ : ∃ x, decide (a < b) = x := ⟨_, rfl⟩
  have HX := Lib.hid hx
  clear hx
  go_enter Try.func11, Try.ntmps11
  go_wp2_with ((first | (go_at_call 31; refine (aboveU _ _ _ x _ HX).mono ?_; rintro e w' ⟨rfl, rfl⟩) | go_in))
  go_ret2
  simp only [Array.getD_eq_getD_getElem?, List.getElem?_toArray, List.getElem?_cons_succ, List.getElem?_cons_zero, Option.getD_some]
  exact ⟨Sp.finB ((Sp.tt 160 a b).trans (congrArg some ((Sp.cmp_neg _ _).trans HX.out))), trivial⟩
theorem t48 (a b : Int) (w : World) (ha : Sp.W64 a) (hb : Sp.W64 b) : Calls Try.prog 11 #[.int .u8 48, .bool true, .int .u64 a, .int .u64 b] w fun e w' => e = .returned (Sp.resB (Sp.testW 48 true a b)) ∧ w = w' := by
  obtain ⟨ha1, ha2⟩ := id ha
  obtain ⟨hb1, hb2⟩ := id hb
  obtain ⟨x, hx⟩ : ∃ x, decide (a < b) = x := ⟨_, rfl⟩
  have HX := Lib.hid hx
  clear hx
  go_enter Try.func11, Try.ntmps11
  go_wp2_with ((first | (go_at_call 31; refine (aboveU _ _ _ x _ HX).mono ?_; rintro e w' ⟨rfl, rfl⟩) | go_in))
  go_ret2
  simp only [Array.getD_eq_getD_getElem?, List.getElem?_toArray, List.getElem?_cons_succ, List.getElem?_cons_zero, Option.getD_some]
  exact ⟨Sp.finB ((Sp.tt 48 a b).trans (congrArg some ((Sp.c_ge _ _).trans (congrArg Bool.not HX.out)))), trivial⟩
theorem t176 (a b : Int) (w : World) (ha : Sp.W64 a) (hb : Sp.W64 b) : Calls Try.prog 11 #[.int .u8 176, .bool true, .int .u64 a, .int .u64 b] w fun e w' => e = .returned (Sp.resB (Sp.testW 176 true a b)) ∧ w = w' := by
  obtain ⟨ha1, ha2⟩ := id ha
  obtain ⟨hb1, hb2⟩ := id hb
  obtain ⟨x, hx⟩ : ∃ x, decide (b < a) = x := ⟨_, rfl⟩
  have HX := Lib.hid hx
  clear hx
  go_enter Try.func11, Try.ntmps11
  go_wp2_with ((first | (go_at_call 31; refine (aboveU _ _ _ x _ HX).mono ?_; rintro e w' ⟨rfl, rfl⟩) | go_in))
  go_ret2
  simp only [Array.getD_eq_getD_getElem?, List.getElem?_toArray, List.getElem?_cons_succ, List.getElem?_cons_zero, Option.getD_some]
  exact ⟨Sp.finB ((Sp.tt 176 a b).trans (congrArg some ((Sp.c_le _ _).trans (congrArg Bool.not HX.out)))), trivial⟩
theorem t96 (a b : Int) (w : World) (ha : Sp.W64 a) (hb : Sp.W64 b) : Calls Try.prog 11 #[.int .u8 96, .bool true, .int .u64 a, .int .u64 b] w fun e w' => e = .returned (Sp.resB (Sp.testW 96 true a b)) ∧ w = w' := by
  obtain ⟨ha1, ha2⟩ := id ha
  obtain ⟨hb1, hb2⟩ := id hb
  obtain ⟨x, hx⟩ : ∃ x, decide (wrap64 b < wrap64 a) = x := ⟨_, rfl⟩
  have HX := Lib.hid hx
  clear hx
  go_enter Try.func11, Try.ntmps11
  go_wp2_with ((first | (go_at_call 31; refine (aboveS64 _ _ x _ (by first | assumption | exact ⟨by omega, by omega⟩) (by first | assumption | exact ⟨by omega, by omega⟩) HX).mono ?_; rintro e w' ⟨rfl, rfl⟩) | go_in))
  go_ret2
  simp only [Array.getD_eq_getD_getElem?, List.getElem?_toArray, List.getElem?_cons_succ, List.getElem?_cons_zero, Option.getD_some]
  exact ⟨Sp.finB ((Sp.tt 96 a b).trans (congrArg some ((Sp.cmp_pos _ _).trans HX.out))), trivial⟩
theorem t192 (a b : Int) (w : World) (ha : Sp.W64 a) (hb : Sp.W64 b) : Calls Try.prog 11 #[.int .u8 192, .bool true, .int .u64 a, .int .u64 b] w fun e w' => e = .returned (Sp.resB (Sp.testW 192 true a b)) ∧ w = w' := by
  obtain ⟨ha1, ha2⟩ := id ha
  obtain ⟨hb1, hb2⟩ := id hb
  obtain ⟨x, hx⟩ : ∃ x, decide (wrap64 a < wrap64 b) = x := ⟨_, rfl⟩
  have HX := Lib.hid hx
  clear hx
  go_enter Try.func11, Try.ntmps11
  go_wp2_with ((first | (go_at_call 31; refine (aboveS64 _ _ x _ (by first | assumption | exact ⟨by omega, by omega⟩) (by first | assumption | exact ⟨by omega, by omega⟩) HX).mono ?_; rintro e w' ⟨rfl, rfl⟩) | go_in))
  go_ret2
  simp only [Array.getD_eq_getD_getElem?, List.getElem?_toArray, List.getElem?_cons_succ, List.getElem?_cons_zero, Option.getD_some]
  exact ⟨Sp.finB ((Sp.tt 192 a b).trans (congrArg some ((Sp.cmp_neg _ _).trans HX.out))), trivial⟩
theorem t112 (a b : Int) (w : World) (ha : Sp.W64 a) (hb : Sp.W64 b) : Calls Try.prog 11 #[.int .u8 112, .bool true, .int .u64 a, .int .u64 b] w fun e w' => e = .returned (Sp.resB (Sp.testW 112 true a b)) ∧ w = w' := by
  obtain ⟨ha1, ha2⟩ := id ha
  obtain ⟨hb1, hb2⟩ := id hb
  obtain ⟨x, hx⟩ : ∃ x, decide (wrap64 a < wrap64 b) = x := ⟨_, rfl⟩
  have HX := Lib.hid hx
  clear hx
  go_enter Try.func11, Try.ntmps11
  go_wp2_with ((first | (go_at_call 31; refine (aboveS64 _ _ x _ (by first | assumption | exact ⟨by omega, by omega⟩) (by first | assumption | exact ⟨by omega, by omega⟩) HX).mono ?_; rintro e w' ⟨rfl, rfl⟩) | go_in))
  go_ret2
  simp only [Array.getD_eq_getD_getElem?, List.getElem?_toArray, List.getElem?_cons_succ, List.getElem?_cons_zero, Option.getD_some]
  exact ⟨Sp.finB ((Sp.tt 112 a b).trans (congrArg some ((Sp.c_ge _ _).trans (congrArg Bool.not HX.out)))), trivial⟩
theorem t208 (a b : Int) (w : World) (ha : Sp.W64 a) (hb : Sp.W64 b) : Calls Try.prog 11 #[.int .u8 208, .bool true, .int .u64 a, .int .u64 b] w fun e w' => e = .returned (Sp.resB (Sp.testW 208 true a b)) ∧ w = w' := by
  obtain ⟨ha1, ha2⟩ := id ha
  obtain ⟨hb1, hb2⟩ := id hb
  obtain ⟨x, hx⟩ : ∃ x, decide (wrap64 b < wrap64 a) = x := ⟨_, rfl⟩
  have HX := Lib.hid hx
  clear hx
  go_enter Try.func11, Try.ntmps11
  go_wp2_with ((first | (go_at_call 31; refine (aboveS64 _ _ x _ (by first | assumption | exact ⟨by omega, by omega⟩) (by first | assumption | exact ⟨by omega, by omega⟩) HX).mono ?_; rintro e w' ⟨rfl, rfl⟩) | go_in))
  go_ret2
  simp only [Array.getD_eq_getD_getElem?, List.getElem?_toArray, List.getElem?_cons_succ, List.getElem?_cons_zero, Option.getD_some]
  exact ⟨Sp.finB ((Sp.tt 208 a b).trans (congrArg some ((Sp.c_le _ _).trans (congrArg Bool.not HX.out)))), trivial⟩
theorem test_none (op a b : Int) (wide : Bool) (w : World) (h16 : op ≠ 16) (h80 : op ≠ 80) (h64 : op ≠ 64) (h32 : op ≠ 32) (h160 : op ≠ 160) (h48 : op ≠ 48) (h176 : op ≠ 176) (h96 : op ≠ 96) (h192 : op ≠ 192) (h112 : op ≠ 112) (h208 : op ≠ 208) (ha : Sp.W64 a) (hb : Sp.W64 b) : Calls Try.prog 11 #[.int .u8 op, .bool wide, .int .u64 a, .int .u64 b] w fun e w' => e = .returned (Sp.resB (Sp.testW op wide a b)) ∧ w = w' := by
  have hn : Sp.testW op wide a b = none := by
    unfold Sp.testW Sp.tst
    simp [h16, h80, h64, h32, h160, h48, h176, h96, h192, h112, h208]
  have HN := Lib.hid hn
  clear hn
  obtain ⟨ha1, ha2⟩ := id ha
  obtain ⟨hb1, hb2⟩ := id hb
  have g16 : (op == 16) = false := by simpa using h16
  clear h16
  have g80 : (op == 80) = false := by simpa using h80
  clear h80
  have g64 : (op == 64) = false := by simpa using h64
  clear h64
  have g32 : (op == 32) = false := by simpa using h32
  clear h32
  have g160 : (op == 160) = false := by simpa using h160
  clear h160
  have g48 : (op == 48) = false := by simpa using h48
  clear h48
  have g176 : (op == 176) = false := by simpa using h176
  clear h176
  have g96 : (op == 96) = false := by simpa using h96
  clear h96
  have g192 : (op == 192) = false := by simpa using h192
  clear h192
  have g112 : (op == 112) = false := by simpa using h112
  clear h112
  have g208 : (op == 208) = false := by simpa using h208
  clear h208
  cases wide
  all_goals
    go_enter Try.func11, Try.ntmps11
    go_wp2_with (go_in)
    go_ret2
    rw [HN.out]
    first | exact ⟨rfl, trivial⟩ | exact ⟨rfl, rfl⟩
theorem testAny (op : Int) (wide : Bool) (a b : Int) (w : World) (ha : Sp.W64 a) (hb : Sp.W64 b) : Calls Try.prog 11 #[.int .u8 op, .bool wide, .int .u64 a, .int .u64 b] w fun e w' => e = .returned (Sp.resB (Sp.testW op wide a b)) ∧ w = w' := by
  by_cases h16 : op = 16
  · subst h16; cases wide; exact f16 a b w ha hb; exact t16 a b w ha hb
  by_cases h80 : op = 80
  · subst h80; cases wide; exact f80 a b w ha hb; exact t80 a b w ha hb
  by_cases h64 : op = 64
  · subst h64; cases wide; exact f64 a b w ha hb; exact t64 a b w ha hb
  by_cases h32 : op = 32
  · subst h32; cases wide; exact f32 a b w ha hb; exact t32 a b w ha hb
  by_cases h160 : op = 160
  · subst h160; cases wide; exact f160 a b w ha hb; exact t160 a b w ha hb
  by_cases h48 : op = 48
  · subst h48; cases wide; exact f48 a b w ha hb; exact t48 a b w ha hb
  by_cases h176 : op = 176
  · subst h176; cases wide; exact f176 a b w ha hb; exact t176 a b w ha hb
  by_cases h96 : op = 96
  · subst h96; cases wide; exact f96 a b w ha hb; exact t96 a b w ha hb
  by_cases h192 : op = 192
  · subst h192; cases wide; exact f192 a b w ha hb; exact t192 a b w ha hb
  by_cases h112 : op = 112
  · subst h112; cases wide; exact f112 a b w ha hb; exact t112 a b w ha hb
  by_cases h208 : op = 208
  · subst h208; cases wide; exact f208 a b w ha hb; exact t208 a b w ha hb
  exact test_none op a b wide w h16 h80 h64 h32 h160 h48 h176 h96 h192 h112 h208 ha hb
theorem e1f (n : Int) (w : World) (hn : Sp.W64 n) : Calls Try.prog 14 #[.int .u64 n, .int .i64 1, .bool false] w fun e w' => e = .returned (Sp.res .u64 (Sp.extend n 1 false)) ∧ w = w' := by
  obtain ⟨hn1, hn2⟩ := id hn
  go_enter Try.func14, Try.ntmps14
  go_wp2_with (go_in)
  all_goals
    go_ret2
    simp only [Array.getD_eq_getD_getElem?, List.getElem?_toArray, List.getElem?_cons_succ, List.getElem?_cons_zero, Option.getD_some]
    exact ⟨Sp.finE rfl, trivial⟩
theorem e1t (n : Int) (w : World) (hn : Sp.W64 n) : Calls Try.prog 14 #[.int .u64 n, .int .i64 1, .bool true] w fun e w' => e = .returned (Sp.res .u64 (Sp.extend n 1 true)) ∧ w = w' := by
  obtain ⟨hn1, hn2⟩ := id hn
  go_enter Try.func14, Try.ntmps14
  go_wp2_with (go_in)
  all_goals
    go_ret2
    simp only [Array.getD_eq_getD_getElem?, List.getElem?_toArray, List.getElem?_cons_succ, List.getElem?_cons_zero, Option.getD_some]
    exact ⟨by first | exact Sp.finE (Sp.e1y ‹_›) | exact Sp.finE (Sp.e1n ‹_›), trivial⟩
theorem e2f (n : Int) (w : World) (hn : Sp.W64 n) : Calls Try.prog 14 #[.int .u64 n, .int .i64 2, .bool false] w fun e w' => e = .returned (Sp.res .u64 (Sp.extend n 2 false)) ∧ w = w' := by
  obtain ⟨hn1, hn2⟩ := id hn
  go_enter Try.func14, Try.ntmps14
  go_wp2_with (go_in)
  all_goals
    go_ret2
    simp only [Array.getD_eq_getD_getElem?, List.getElem?_toArray, List.getElem?_cons_succ, List.getElem?_cons_zero, Option.getD_some]
    exact ⟨Sp.finE rfl, trivial⟩
theorem e2t (n : Int) (w : World) (hn : Sp.W64 n) : Calls Try.prog 14 #[.int .u64 n, .int .i64 2, .bool true] w fun e w' => e = .returned (Sp.res .u64 (Sp.extend n 2 true)) ∧ w = w' := by
  obtain ⟨hn1, hn2⟩ := id hn
  go_enter Try.func14, Try.ntmps14
  go_wp2_with (go_in)
  all_goals
    go_ret2
    simp only [Array.getD_eq_getD_getElem?, List.getElem?_toArray, List.getElem?_cons_succ, List.getElem?_cons_zero, Option.getD_some]
    exact ⟨by first | exact Sp.finE (Sp.e2y ‹_›) | exact Sp.finE (Sp.e2n ‹_›), trivial⟩
theorem e4f (n : Int) (w : World) (hn : Sp.W64 n) : Calls Try.prog 14 #[.int .u64 n, .int .i64 4, .bool false] w fun e w' => e = .returned (Sp.res .u64 (Sp.extend n 4 false)) ∧ w = w' := by
  obtain ⟨hn1, hn2⟩ := id hn
  go_enter Try.func14, Try.ntmps14
  go_wp2_with (go_in)
  all_goals
    go_ret2
    simp only [Array.getD_eq_getD_getElem?, List.getElem?_toArray, List.getElem?_cons_succ, List.getElem?_cons_zero, Option.getD_some]
    exact ⟨Sp.finE rfl, trivial⟩
theorem e4t (n : Int) (w : World) (hn : Sp.W64 n) : Calls Try.prog 14 #[.int .u64 n, .int .i64 4, .bool true] w fun e w' => e = .returned (Sp.res .u64 (Sp.extend n 4 true)) ∧ w = w' := by
  obtain ⟨hn1, hn2⟩ := id hn
  go_enter Try.func14, Try.ntmps14
  go_wp2_with (go_in)
  all_goals
    go_ret2
    simp only [Array.getD_eq_getD_getElem?, List.getElem?_toArray, List.getElem?_cons_succ, List.getElem?_cons_zero, Option.getD_some]
    exact ⟨by first | exact Sp.finE (Sp.e4y ‹_›) | exact Sp.finE (Sp.e4n ‹_›), trivial⟩
theorem e8f (n : Int) (w : World) (hn : Sp.W64 n) : Calls Try.prog 14 #[.int .u64 n, .int .i64 8, .bool false] w fun e w' => e = .returned (Sp.res .u64 (Sp.extend n 8 false)) ∧ w = w' := by
  obtain ⟨hn1, hn2⟩ := id hn
  go_enter Try.func14, Try.ntmps14
  go_wp2_with (go_in)
  all_goals
    go_ret2
    simp only [Array.getD_eq_getD_getElem?, List.getElem?_toArray, List.getElem?_cons_succ, List.getElem?_cons_zero, Option.getD_some]
    exact ⟨Sp.finE rfl, trivial⟩
theorem e8t (n : Int) (w : World) (hn : Sp.W64 n) : Calls Try.prog 14 #[.int .u64 n, .int .i64 8, .bool true] w fun e w' => e = .returned (Sp.res .u64 (Sp.extend n 8 true)) ∧ w = w' := by
  obtain ⟨hn1, hn2⟩ := id hn
  go_enter Try.func14, Try.ntmps14
  go_wp2_with (go_in)
  all_goals
    go_ret2
    simp only [Array.getD_eq_getD_getElem?, List.getElem?_toArray, List.getElem?_cons_succ, List.getElem?_cons_zero, Option.getD_some]
    exact ⟨Sp.finE (Sp.e8t hn), trivial⟩
theorem ext_none (n bytes : Int) (s : Bool) (w : World) (h1 : bytes ≠ 1) (h2 : bytes ≠ 2) (h4 : bytes ≠ 4) (h8 : bytes ≠ 8) : Calls Try.prog 14 #[.int .u64 n, .int .i64 bytes, .bool s] w fun e w' => e = .returned (Sp.res .u64 (Sp.extend n bytes s)) ∧ w = w' := by
  have HN := Lib.hid (Sp.ext_none (n := n) (s := s) h1 h2 h4 h8)
  have g1 : (bytes != 1) = true := by simpa using h1
  have g2 : (bytes != 2) = true := by simpa using h2
  have g4 : (bytes != 4) = true := by simpa using h4
  have g8 : (bytes != 8) = true := by simpa using h8
  have k1 : (bytes == 1) = false := by simpa using h1
  have k2 : (bytes == 2) = false := by simpa using h2
  have k4 : (bytes == 4) = false := by simpa using h4
  have k8 : (bytes == 8) = false := by simpa using h8
  clear h1 h2 h4 h8
  go_enter Try.func14, Try.ntmps14
  go_wp2_with (go_in)
  go_ret2
  rw [HN.out]
  first | exact ⟨rfl, trivial⟩ | exact ⟨rfl, rfl⟩
theorem extAny (n bytes : Int) (s : Bool) (w : World) (hn : Sp.W64 n) : Calls Try.prog 14 #[.int .u64 n, .int .i64 bytes, .bool s] w fun e w' => e = .returned (Sp.res .u64 (Sp.extend n bytes s)) ∧ w = w' := by
  by_cases h1 : bytes = 1
  · subst h1; cases s; exact e1f n w hn; exact e1t n w hn
  by_cases h2 : bytes = 2
  · subst h2; cases s; exact e2f n w hn; exact e2t n w hn
  by_cases h4 : bytes = 4
  · subst h4; cases s; exact e4f n w hn; exact e4t n w hn
  by_cases h8 : bytes = 8
  · subst h8; cases s; exact e8f n w hn; exact e8t n w hn
  exact ext_none n bytes s w h1 h2 h4 h8
theorem s16z (n : Int) (w : World) (hn : Sp.W64 n) : Calls Try.prog 12 #[.int .i64 0, .int .i64 16, .int .u64 n] w fun e w' => e = .returned (Sp.res .u64 (Sp.swap 0 16 n)) ∧ w = w' := by
  obtain ⟨hn1, hn2⟩ := id hn
  go_enter Try.func12, Try.ntmps12
  go_wp2_with (go_in)
  go_ret2
  simp only [Array.getD_eq_getD_getElem?, List.getElem?_toArray, List.getElem?_cons_succ, List.getElem?_cons_zero, Option.getD_some]
  exact ⟨Sp.finS rfl, trivial⟩
theorem s16 (order n : Int) (w : World) (ho : 0 < order) (ho2 : order ≤ 2) (hn : Sp.W64 n) : Calls Try.prog 12 #[.int .i64 order, .int .i64 16, .int .u64 n] w fun e w' => e = .returned (Sp.res .u64 (Sp.swap order 16 n)) ∧ w = w' := by
  obtain ⟨hn1, hn2⟩ := id hn
  have hx : Sp.W64 (n % 65536) := ⟨by omega, by omega⟩
  have HE : Hid (Sp.swap order 16 n = some (Sp.rv (n % 65536) 2)) := Lib.hid (by
    rw [Sp.rv2 (by omega) (by omega)]
    unfold Sp.swap
    rw [if_pos (by omega)]
    simp; omega)
  have h0 : (order == 0) = false := by simp; omega
  go_enter Try.func12, Try.ntmps12
  go_wp2_with (go_in)
  go_loop [9, 10] (fun o i => ∃ k m : Nat, m = 8 * k ∧ k ≤ 2 ∧ i = .int .i64 m ∧ o = .int .u64 (Sp.rv (n % 65536) k)) (fun _ i => 16 - (intOf i).toNat)
  case atStart => exact ⟨0, 0, rfl, by omega, rfl, rfl⟩
  case round =>
    obtain ⟨k, m, hm, hk, rfl, rfl⟩ := hrel
    by_cases hlt : m < 16
    · have HS := Lib.hid (Sp.rv_step hx k (by omega))
      have hb := Sp.rv_w64 (x := (n % 65536)) k (by omega)
      obtain ⟨hb1, hb2⟩ := hb
      go_wp2
      go_round
      case rel => exact ⟨k + 1, m + 8, by omega, by omega, by go_num, by subst hm; rw [HS.out]⟩
      case measure => simp [intOf]; omega
    · obtain rfl : m = 16 := by omega
      obtain rfl : k = 2 := by omega
      go_wp2
      go_ret2
      simp only [Array.getD_eq_getD_getElem?, List.getElem?_toArray, List.getElem?_cons_succ, List.getElem?_cons_zero, Option.getD_some]
      exact ⟨Sp.finS HE.out, trivial⟩
theorem s32z (n : Int) (w : World) (hn : Sp.W64 n) : Calls Try.prog 12 #[.int .i64 0, .int .i64 32, .int .u64 n] w fun e w' => e = .returned (Sp.res .u64 (Sp.swap 0 32 n)) ∧ w = w' := by
  obtain ⟨hn1, hn2⟩ := id hn
  go_enter Try.func12, Try.ntmps12
  go_wp2_with (go_in)
  go_ret2
  simp only [Array.getD_eq_getD_getElem?, List.getElem?_toArray, List.getElem?_cons_succ, List.getElem?_cons_zero, Option.getD_some]
  exact ⟨Sp.finS rfl, trivial⟩
theorem s32 (order n : Int) (w : World) (ho : 0 < order) (ho2 : order ≤ 2) (hn : Sp.W64 n) : Calls Try.prog 12 #[.int .i64 order, .int .i64 32, .int .u64 n] w fun e w' => e = .returned (Sp.res .u64 (Sp.swap order 32 n)) ∧ w = w' := by
  obtain ⟨hn1, hn2⟩ := id hn
  have hx : Sp.W64 (n % 4294967296) := ⟨by omega, by omega⟩
  have HE : Hid (Sp.swap order 32 n = some (Sp.rv (n % 4294967296) 4)) := Lib.hid (by
    rw [Sp.rv4 (by omega) (by omega)]
    unfold Sp.swap
    rw [if_pos (by omega)]
    simp; omega)
  have h0 : (order == 0) = false := by simp; omega
  go_enter Try.func12, Try.ntmps12
  go_wp2_with (go_in)
  go_loop [9, 10] (fun o i => ∃ k m : Nat, m = 8 * k ∧ k ≤ 4 ∧ i = .int .i64 m ∧ o = .int .u64 (Sp.rv (n % 4294967296) k)) (fun _ i => 32 - (intOf i).toNat)
  case atStart => exact ⟨0, 0, rfl, by omega, rfl, rfl⟩
  case round =>
    obtain ⟨k, m, hm, hk, rfl, rfl⟩ := hrel
    by_cases hlt : m < 32
    · have HS := Lib.hid (Sp.rv_step hx k (by omega))
      have hb := Sp.rv_w64 (x := (n % 4294967296)) k (by omega)
      obtain ⟨hb1, hb2⟩ := hb
      go_wp2
      go_round
      case rel => exact ⟨k + 1, m + 8, by omega, by omega, by go_num, by subst hm; rw [HS.out]⟩
      case measure => simp [intOf]; omega
    · obtain rfl : m = 32 := by omega
      obtain rfl : k = 4 := by omega
      go_wp2
      go_ret2
      simp only [Array.getD_eq_getD_getElem?, List.getElem?_toArray, List.getElem?_cons_succ, List.getElem?_cons_zero, Option.getD_some]
      exact ⟨Sp.finS HE.out, trivial⟩
theorem s64z (n : Int) (w : World) (hn : Sp.W64 n) : Calls Try.prog 12 #[.int .i64 0, .int .i64 64, .int .u64 n] w fun e w' => e = .returned (Sp.res .u64 (Sp.swap 0 64 n)) ∧ w = w' := by
  obtain ⟨hn1, hn2⟩ := id hn
  go_enter Try.func12, Try.ntmps12
  go_wp2_with (go_in)
  go_ret2
  simp only [Array.getD_eq_getD_getElem?, List.getElem?_toArray, List.getElem?_cons_succ, List.getElem?_cons_zero, Option.getD_some]
  exact ⟨Sp.finS rfl, trivial⟩
theorem s64 (order n : Int) (w : World) (ho : 0 < order) (ho2 : order ≤ 2) (hn : Sp.W64 n) : Calls Try.prog 12 #[.int .i64 order, .int .i64 64, .int .u64 n] w fun e w' => e = .returned (Sp.res .u64 (Sp.swap order 64 n)) ∧ w = w' := by
  obtain ⟨hn1, hn2⟩ := id hn
  have hx : Sp.W64 n := ⟨by omega, by omega⟩
  have HE : Hid (Sp.swap order 64 n = some (Sp.rv n 8)) := Lib.hid (by
    rw [Sp.rv8 hn]
    unfold Sp.swap
    rw [if_pos (by omega)]
    simp; omega)
  have h0 : (order == 0) = false := by simp; omega
  go_enter Try.func12, Try.ntmps12
  go_wp2_with (go_in)
  go_loop [9, 10] (fun o i => ∃ k m : Nat, m = 8 * k ∧ k ≤ 8 ∧ i = .int .i64 m ∧ o = .int .u64 (Sp.rv n k)) (fun _ i => 64 - (intOf i).toNat)
  case atStart => exact ⟨0, 0, rfl, by omega, rfl, rfl⟩
  case round =>
    obtain ⟨k, m, hm, hk, rfl, rfl⟩ := hrel
    by_cases hlt : m < 64
    · have HS := Lib.hid (Sp.rv_step hx k (by omega))
      have hb := Sp.rv_w64 (x := n) k (by omega)
      obtain ⟨hb1, hb2⟩ := hb
      go_wp2
      go_round
      case rel => exact ⟨k + 1, m + 8, by omega, by omega, by go_num, by subst hm; rw [HS.out]⟩
      case measure => simp [intOf]; omega
    · obtain rfl : m = 64 := by omega
      obtain rfl : k = 8 := by omega
      go_wp2
      go_ret2
      simp only [Array.getD_eq_getD_getElem?, List.getElem?_toArray, List.getElem?_cons_succ, List.getElem?_cons_zero, Option.getD_some]
      exact ⟨Sp.finS HE.out, trivial⟩
theorem sLow (order width n : Int) (w : World) (ho : order < 0) : Calls Try.prog 12 #[.int .i64 order, .int .i64 width, .int .u64 n] w fun e w' => e = .returned (Sp.res .u64 (Sp.swap order width n)) ∧ w = w' := by
  have HN := Lib.hid (Sp.swap_none (order := order) (width := width) (n := n) (.inl (by omega)))
  go_enter Try.func12, Try.ntmps12
  go_wp2_with (go_in)
  go_ret2
  rw [HN.out]
  first | exact ⟨rfl, trivial⟩ | exact ⟨rfl, rfl⟩
theorem sHigh (order width n : Int) (w : World) (ho : 2 < order) : Calls Try.prog 12 #[.int .i64 order, .int .i64 width, .int .u64 n] w fun e w' => e = .returned (Sp.res .u64 (Sp.swap order width n)) ∧ w = w' := by
  have HN := Lib.hid (Sp.swap_none (order := order) (width := width) (n := n) (.inl (by omega)))
  go_enter Try.func12, Try.ntmps12
  go_wp2_with (go_in)
  go_ret2
  rw [HN.out]
  first | exact ⟨rfl, trivial⟩ | exact ⟨rfl, rfl⟩
theorem sWide (order width n : Int) (w : World) (ho : 0 ≤ order) (ho2 : order ≤ 2) (h1 : width ≠ 16) (h2 : width ≠ 32) (h3 : width ≠ 64) : Calls Try.prog 12 #[.int .i64 order, .int .i64 width, .int .u64 n] w fun e w' => e = .returned (Sp.res .u64 (Sp.swap order width n)) ∧ w = w' := by
  have HN := Lib.hid (Sp.swap_none (order := order) (width := width) (n := n) (.inr ⟨h1, h2, h3⟩))
  have k1 : (width == 16) = false := by simpa using h1
  have k2 : (width == 32) = false := by simpa using h2
  have k3 : (width == 64) = false := by simpa using h3
  have g1 : (width != 16) = true := by simpa using h1
  have g2 : (width != 32) = true := by simpa using h2
  have g3 : (width != 64) = true := by simpa using h3
  clear h1 h2 h3
  go_enter Try.func12, Try.ntmps12
  go_wp2_with (go_in)
  go_ret2
  rw [HN.out]
  first | exact ⟨rfl, trivial⟩ | exact ⟨rfl, rfl⟩
theorem swapAny (order width n : Int) (w : World) (hn : Sp.W64 n) : Calls Try.prog 12 #[.int .i64 order, .int .i64 width, .int .u64 n] w fun e w' => e = .returned (Sp.res .u64 (Sp.swap order width n)) ∧ w = w' := by
  by_cases h1 : order < 0
  · exact sLow _ _ _ _ h1
  by_cases h2 : 2 < order
  · exact sHigh _ _ _ _ h2
  by_cases h0 : order = 0
  · subst h0
    by_cases w16 : width = 16
    · subst w16; exact s16z _ _ hn
    by_cases w32 : width = 32
    · subst w32; exact s32z _ _ hn
    by_cases w64 : width = 64
    · subst w64; exact s64z _ _ hn
    exact sWide _ _ _ _ (by omega) (by omega) w16 w32 w64
  by_cases w16 : width = 16
  · subst w16; exact s16 _ _ _ (by omega) (by omega) hn
  by_cases w32 : width = 32
  · subst w32; exact s32 _ _ _ (by omega) (by omega) hn
  by_cases w64 : width = 64
  · subst w64; exact s64 _ _ _ (by omega) (by omega) hn
  exact sWide _ _ _ _ (by omega) (by omega) w16 w32 w64
end Go.Proofs.Ytlhegejfaihgmaa.RefT
