/-
  The contracts of 'word.Alu', 'word.Test', of the statements' own 'alu' and 'awake'.
-/
import Derived.Test.YtlhegejfaihgmaaAluLo
import Derived.Test.YtlhegejfaihgmaaAluHi
import Derived.Test.YtlhegejfaihgmaaTstLo
import Derived.Test.YtlhegejfaihgmaaTstHi
import Derived.Test.YtlhegejfaihgmaaSwp
import Derived.Test.YtlhegejfaihgmaaExt
import Derived.Test.YtlhegejfaihgmaaWordSpecD
import Derived.WalkLawsBesides
import Derived.WalkSpells
import Derived.Handy
import Derived.Lib.Hide
namespace Go.Proofs.Ytlhegejfaihgmaa.Top
open Go.RowKit
set_option linter.unusedVariables false

theorem ret2 {a b : Int} {x y : Bool} (h : a = b) (g : x = y) : Ending.returned (.tuple #[.int .u64 a, .bool x]) = .returned (.tuple #[.int .u64 b, .bool y]) := by rw [h, g]

theorem aluAny (op off : Int) (wide : Bool) (a b : Int) (w : World) (hop : 0 ≤ op) (hop2 : op < 256) (hoff : -32768 ≤ off) (hoff2 : off < 32768) (ha : Sp.W64 a) (hb : Sp.W64 b) :
    Calls Try.prog 7 #[.int .u8 op, .int .i16 off, .bool wide, .int .u64 a, .int .u64 b] w fun e w' => e = .returned (Sp.res .u64 (Sp.aluW op off wide a b)) ∧ Sp.Ok w w' := by
  obtain ⟨ha1, ha2⟩ := ha
  obtain ⟨hb1, hb2⟩ := hb
  cases wide with
  | false =>
    cases hx : Sp.alu 4294967296 wrap32 32 op off (a % 4294967296) (b % 4294967296) with
    | none =>
      have hw : Sp.aluW op off false a b = none := hx
      have HX := Lib.hid hx
      have HW := Lib.hid hw
      clear hx hw
      go_enter Try.func7, Try.ntmps7
      go_wp2_with (go_at_call 15; refine (Alu32.any _ _ _ _ _ hop hop2 hoff hoff2 (by omega) (by omega) (by omega) (by omega)).mono ?_; rintro e w' ⟨rfl, hb⟩; rw [HX.out]; simp only [Sp.res])
      go_ret2
      refine ⟨?_, by assumption⟩
      rw [HW.out]; rfl
    | some r =>
      have hbd := Sp.alu_bd (.inl ⟨rfl, rfl⟩) (by omega) (by omega) (by omega) (by omega) hx
      obtain ⟨hr1, hr2⟩ := hbd
      have hw : Sp.aluW op off false a b = some r := hx
      have HX := Lib.hid hx
      have HW := Lib.hid hw
      clear hx hw
      go_enter Try.func7, Try.ntmps7
      go_wp2_with (go_at_call 15; refine (Alu32.any _ _ _ _ _ hop hop2 hoff hoff2 (by omega) (by omega) (by omega) (by omega)).mono ?_; rintro e w' ⟨rfl, hb⟩; rw [HX.out]; simp only [Sp.res])
      go_ret2
      refine ⟨?_, by assumption⟩
      rw [HW.out]; rfl
  | true =>
    by_cases h : op = 176 ∧ off = 32
    · obtain ⟨rfl, rfl⟩ := h
      go_enter Try.func7, Try.ntmps7
      go_wp2_with fail
      go_ret2
      exact ⟨rfl, Sp.Ok.refl _⟩
    · have hw : Sp.aluW op off true a b = Sp.alu 18446744073709551616 wrap64 64 op off a b := by
        unfold Sp.aluW
        rw [if_neg (by decide), if_neg h]
      have HW := Lib.hid hw
      have H := Lib.hid h
      by_cases h1 : op = 176
      · have h2 : (off == 32) = false := by simpa using fun e => H.out ⟨h1, e⟩
        subst h1
        clear hw h
        cases hx : Sp.alu 18446744073709551616 wrap64 64 176 off a b with
        | none =>
          have HX := Lib.hid hx
          clear hx
          go_enter Try.func7, Try.ntmps7
          go_wp2_with (go_at_call 16; refine (Alu64.any _ _ _ _ _ hop hop2 hoff hoff2 ha1 ha2 hb1 hb2).mono ?_; rintro e w' ⟨rfl, hb⟩; rw [HX.out]; simp only [Sp.res])
          go_ret2
          refine ⟨?_, by assumption⟩
          rw [HW.out, HX.out]; rfl
        | some r =>
          have HX := Lib.hid hx
          clear hx
          go_enter Try.func7, Try.ntmps7
          go_wp2_with (go_at_call 16; refine (Alu64.any _ _ _ _ _ hop hop2 hoff hoff2 ha1 ha2 hb1 hb2).mono ?_; rintro e w' ⟨rfl, hb⟩; rw [HX.out]; simp only [Sp.res])
          go_ret2
          refine ⟨?_, by assumption⟩
          rw [HW.out, HX.out]; rfl
      · have h2 : (op == 176) = false := by simpa using h1
        have H1 := Lib.hid h1
        clear hw h h1
        cases hx : Sp.alu 18446744073709551616 wrap64 64 op off a b with
        | none =>
          have HX := Lib.hid hx
          clear hx
          go_enter Try.func7, Try.ntmps7
          go_wp2_with (go_at_call 16; refine (Alu64.any _ _ _ _ _ hop hop2 hoff hoff2 ha1 ha2 hb1 hb2).mono ?_; rintro e w' ⟨rfl, hb⟩; rw [HX.out]; simp only [Sp.res])
          go_ret2
          refine ⟨?_, by assumption⟩
          rw [HW.out, HX.out]; rfl
        | some r =>
          have HX := Lib.hid hx
          clear hx
          go_enter Try.func7, Try.ntmps7
          go_wp2_with (go_at_call 16; refine (Alu64.any _ _ _ _ _ hop hop2 hoff hoff2 ha1 ha2 hb1 hb2).mono ?_; rintro e w' ⟨rfl, hb⟩; rw [HX.out]; simp only [Sp.res])
          go_ret2
          refine ⟨?_, by assumption⟩
          rw [HW.out, HX.out]; rfl
end Go.Proofs.Ytlhegejfaihgmaa.Top
