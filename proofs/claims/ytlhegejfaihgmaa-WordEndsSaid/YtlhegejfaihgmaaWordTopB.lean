/-
  The contracts of 'word.Test', and of the statements' own 'alu' and 'awake'.
-/
import Derived.Test.YtlhegejfaihgmaaWordTop
namespace Go.Proofs.Ytlhegejfaihgmaa.Top
open Go.RowKit
set_option linter.unusedVariables false

theorem testAny (op : Int) (wide : Bool) (a b : Int) (w : World) (hop : 0 ≤ op) (hop2 : op < 256) (ha : Sp.W64 a) (hb : Sp.W64 b) :
    Calls Try.prog 10 #[.int .u8 op, .bool wide, .int .u64 a, .int .u64 b] w fun e w' => e = .returned (Sp.resB (Sp.testW op wide a b)) ∧ Sp.Ok w w' := by
  obtain ⟨ha1, ha2⟩ := ha
  obtain ⟨hb1, hb2⟩ := hb
  cases hx : Sp.testW op wide a b with
  | none =>
    have HX := Lib.hid hx
    clear hx
    cases wide with
    | true =>
      go_enter Try.func10, Try.ntmps10
      go_wp2_with (go_at_call 29; refine (Tst64.any _ _ _ _ hop hop2 ha1 ha2 hb1 hb2).mono ?_; rintro e w' ⟨rfl, hk⟩; have h5 : Sp.tst (Sp.cmpI a b) (Sp.cmpI (wrap64 a) (wrap64 b)) (bits .and .u64 a b) op = none := HX.out; rw [h5]; clear h5; simp only [Sp.resB])
      go_ret2
      refine ⟨?_, by assumption⟩
      rfl
    | false =>
      go_enter Try.func10, Try.ntmps10
      go_wp2_with (go_at_call 30; refine (Tst32.any _ _ _ _ hop hop2 (by omega) (by omega) (by omega) (by omega)).mono ?_; rintro e w' ⟨rfl, hk⟩; have h5 : Sp.tst (Sp.cmpI (a % 4294967296) (b % 4294967296)) (Sp.cmpI (wrap32 (a % 4294967296)) (wrap32 (b % 4294967296))) (bits .and .u32 (a % 4294967296) (b % 4294967296)) op = none := HX.out; rw [h5]; clear h5; simp only [Sp.resB])
      go_ret2
      refine ⟨?_, by assumption⟩
      rfl
  | some r =>
    have HX := Lib.hid hx
    clear hx
    cases wide with
    | true =>
      go_enter Try.func10, Try.ntmps10
      go_wp2_with (go_at_call 29; refine (Tst64.any _ _ _ _ hop hop2 ha1 ha2 hb1 hb2).mono ?_; rintro e w' ⟨rfl, hk⟩; have h5 : Sp.tst (Sp.cmpI a b) (Sp.cmpI (wrap64 a) (wrap64 b)) (bits .and .u64 a b) op = some r := HX.out; rw [h5]; clear h5; simp only [Sp.resB])
      go_ret2
      refine ⟨?_, by assumption⟩
      rfl
    | false =>
      go_enter Try.func10, Try.ntmps10
      go_wp2_with (go_at_call 30; refine (Tst32.any _ _ _ _ hop hop2 (by omega) (by omega) (by omega) (by omega)).mono ?_; rintro e w' ⟨rfl, hk⟩; have h5 : Sp.tst (Sp.cmpI (a % 4294967296) (b % 4294967296)) (Sp.cmpI (wrap32 (a % 4294967296)) (wrap32 (b % 4294967296))) (bits .and .u32 (a % 4294967296) (b % 4294967296)) op = some r := HX.out; rw [h5]; clear h5; simp only [Sp.resB])
      go_ret2
      refine ⟨?_, by assumption⟩
      rfl

theorem aw1 : Sp.aluW 16 0 true 3 5 = some 18446744073709551614 := by decide
theorem aw2 : Sp.aluW 16 0 false 3 5 = some 4294967294 := by decide
theorem aw3 : Sp.aluW 48 0 true 7 0 = some 0 := by decide
theorem aw4 : Sp.aluW 192 0 true 9223372036854775808 1 = some 13835058055282163712 := by
  have h : wrap64 9223372036854775808 = -9223372036854775808 := by unfold wrap64; decide
  have e : Sp.aluW 192 0 true 9223372036854775808 1 = some (wrap64 9223372036854775808 / 2 ^ ((1 : Int) % 64).toNat % 18446744073709551616) := rfl
  rw [e, h]; decide
theorem aw5 : Sp.swap 1 16 4660 = some 13330 := by decide

theorem awake (w : World) : Calls Try.prog 4 #[] w fun e w' => e = .returned (.bool true) ∧ Sp.Ok w w' := by
  have A1 := Lib.hid aw1
  have A2 := Lib.hid aw2
  have A3 := Lib.hid aw3
  have A4 := Lib.hid aw4
  have A5 := Lib.hid aw5
  have HK : Hid ((keyOf Try.prog 3 (.int .i64 16)).isSome = true) := Swp.key 16 (by decide) (by decide)
  go_enter Try.func4, Try.ntmps4
  go_wp2_with fail
  refine (aluAny _ _ _ _ _ _ (by decide) (by decide) (by decide) (by decide) ⟨by decide, by decide⟩ ⟨by decide, by decide⟩).mono ?_
  rintro e w1 ⟨rfl, hk1⟩
  rw [A1.out]; simp only [Sp.res]
  go_wp2_with fail
  refine (aluAny _ _ _ _ _ _ (by decide) (by decide) (by decide) (by decide) ⟨by decide, by decide⟩ ⟨by decide, by decide⟩).mono ?_
  rintro e w2 ⟨rfl, hk2⟩
  rw [A2.out]; simp only [Sp.res]
  go_wp2_with fail
  refine (aluAny _ _ _ _ _ _ (by decide) (by decide) (by decide) (by decide) ⟨by decide, by decide⟩ ⟨by decide, by decide⟩).mono ?_
  rintro e w3 ⟨rfl, hk3⟩
  rw [A3.out]; simp only [Sp.res]
  go_wp2_with fail
  refine (aluAny _ _ _ _ _ _ (by decide) (by decide) (by decide) (by decide) ⟨by decide, by decide⟩ ⟨by decide, by decide⟩).mono ?_
  rintro e w4 ⟨rfl, hk4⟩
  rw [A4.out]; simp only [Sp.res]
  go_wp2_with fail
  refine (Swp.any _ _ _ _ (by decide) (by decide) HK).mono ?_
  rintro e w5 ⟨rfl, hk5⟩
  rw [A5.out]; simp only [Sp.res]
  have HB : Sp.Ok w w5 := ((((hk1.trans hk2).trans hk3).trans hk4).trans hk5)
  clear hk1 hk2 hk3 hk4 hk5
  go_wp2_with fail
  go_ret
  exact ⟨rfl, HB⟩
end Go.Proofs.Ytlhegejfaihgmaa.Top
